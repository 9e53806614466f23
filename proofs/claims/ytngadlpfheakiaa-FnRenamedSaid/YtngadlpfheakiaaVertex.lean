/- withVertex, l14More: a game with one more vertex. -/
import Derived.Test.YtngadlpfheakiaaParMark
import Derived.Test.YtngadlpfheakiaaApp
import Derived.Deep.RegionHeld3
import Derived.Deep.DeepMust
namespace Go.Proofs.Ytngadlpfheakiaa
open Go.RowKit

/-- a game with one more vertex -/
def addV (g : ParD) (ow pr : Int) (nx : List Int) : ParD := (g.1 ++ [ow], g.2.1 ++ [nx], g.2.2 ++ [pr])
def small (g : ParD) : Prop := g.1.length ≤ 1048576 ∧ g.2.1.length ≤ 1048576 ∧ g.2.2.length ≤ 1048576

set_option maxHeartbeats 1600000 in
theorem withVertexC (s0 s1 s2 v : Value) (g : ParD) (ow pr : Int) (nx : List Int) (W w : World) (lo : Nat) (hlo : lo ≤ W.heap.size) (ho : OPar W lo s0 s1 s2 g) (hW : Below W.heap.size W w) (hv : OI 2 w W.heap.size v nx) (hsm : small g) :
    Calls Try.prog 49 #[.agg #[s0, s1, s2], .int .i64 ow, .int .i64 pr, v] w fun e w' => ∃ t0 t1 t2, e = .returned (.agg #[t0, t1, t2]) ∧ OPar w' lo t0 t1 t2 (addV g ow pr nx) ∧ Below lo w w' ∧ Chg (fun b => s0.ownBlock = some b ∨ s1.ownBlock = some b ∨ s2.ownBlock = some b) w w' := by
  have ho' := ho
  obtain ⟨A0, c0, A1, c1, A2, c2, rfl, rfl, rfl⟩ := ho'.form
  obtain ⟨cs, h1, h2, h3⟩ := ho
  obtain ⟨h01, h11, h21⟩ := h1
  obtain ⟨Av, cv, rfl⟩ := hv.form
  obtain ⟨m1, m2, m3⟩ := hsm
  obtain ⟨i0, hi0, hz0, hz1, hz2⟩ := info_parts infoI'
  obtain ⟨i1, hi1, hy0, hy1, hy2⟩ := info_parts infoII
  have hWs := hW.size
  have k0 := h01.below hW
  have k1 := row_below h11 hW
  have k2 := h21.below hW
  have k3 := h2.below hW
  -- all blocks of the game lie below W's end, those of the new row above it
  have u0 : ∀ b, (Value.slice A0 g.1.length c0).ownBlock = some b → b < W.heap.size := fun b hb => (h01.lt b hb).2
  have u1 : ∀ b, (Value.slice A1 g.2.1.length c1).ownBlock = some b → b < W.heap.size := fun b hb => (World.ownsRow.lt h11 b hb).2
  have u2 : ∀ b, (Value.slice A2 g.2.2.length c2).ownBlock = some b → b < W.heap.size := fun b hb => (h2.lt b hb).2
  have uc : ∀ i, i < cs.length → ∀ b, (gv cs i).ownBlock = some b → b < W.heap.size := fun i hi b hb => (h21.lt i hi b hb).2
  have uv : ∀ b, (Value.slice Av nx.length cv).ownBlock = some b → W.heap.size ≤ b ∧ b < w.heap.size := fun b hb => hv.lt b hb
  have d02 : Apart (.slice A0 g.1.length c0) (.slice A2 g.2.2.length c2) := h3 0 1 (by simp) (by simp) (by omega)
  have d0c : ∀ i, i < cs.length → Apart (.slice A0 g.1.length c0) (gv cs i) := fun i hi => h3.skip.head hi
  have d2c : ∀ i, i < cs.length → Apart (.slice A2 g.2.2.length c2) (gv cs i) := fun i hi => h3.tail.head hi
  have dcs : Dis cs := h3.tail.tail
  clear h3 h01 h11 h21 h2 ho'
  go_enter Try.func49, Try.ntmps49
  have hbW1 : Below w.heap.size w (((w.alloc (.cells #[.slice A0 g.1.length c0, .slice A1 g.2.1.length c1, .slice A2 g.2.2.length c2] 32)).alloc (.cells #[.slice none 0 0, .slice none 0 0, .slice none 0 0] 32)).alloc (.cells #[.int .i64 ow] 2)) :=
    below_alloc (Nat.le_refl _) (below_alloc (Nat.le_refl _) (below_alloc (Nat.le_refl _) (Below.refl _ _)))
  go_wp2_with (first
    | (at_builtin
       refine wpList_push _ rfl (.tmp 11) (.tmp 13) 27 rfl lo 2 i0 (.int .i64 0) 8 Try.underlying27 hi0 hz0 hz1 hz2 rfl (.slice A0 g.1.length c0) g.1.length (g.1.map (Value.int .i64)) rfl (k0.below hbW1) (w.heap.size + 1 + 1) (.int .i64 ow) rfl (by simp [go_sem]) rfl (by omega) (by omega) (by simp; omega) ?_
       intro g0 e0 w1 r0 hg0 hat0 hlt0
       have hs1 : w.heap.size + 2 < w1.heap.size := by have := hg0.size; simp at this; omega
       have hat0' : (Value.slice A0 g.1.length c0).ownBlock = some g0 ∨ g0 = w.heap.size + 3 := by simpa using hat0
       have ch0 := Chg.of_grown hg0
       have B4 : Box w1 w.heap.size 32 #[.slice A0 g.1.length c0, .slice A1 g.2.1.length c1, .slice A2 g.2.2.length c2] := (((Box.new _ _ _).alloc _).alloc _).grown hg0 (fun x hx e => by have := u0 x hx; omega)
       have B8 : Box w1 (w.heap.size + 1) 32 #[.slice none 0 0, .slice none 0 0, .slice none 0 0] := ((Box.new' (by simp)).alloc _).grown hg0 (fun x hx e => by have := u0 x hx; omega)
       have q10 : w1.cell? ⟨w.heap.size, 0, none⟩ = some (.slice A0 g.1.length c0) := B4.cell 0
       have q11 : w1.cell? ⟨w.heap.size, 1, none⟩ = some (.slice A1 g.2.1.length c1) := B4.cell 1
       have f10 := B4.hot 0
       have N0 := OI.app r0 rfl
       have v0 := push_block (n := g.1.length + 1) (c := e0) hat0' u0
       have K1 := row_chg (row_below k1 hbW1) ch0 (fun b hb hs => own_ne (k0.below hbW1) (row_below k1 hbW1) (by decide) b hs hb)
       have K2 : OL 2 w1 lo cs (gl g.2.1) := fun i hi => ((k2.below hbW1) i hi).chg ch0 (fun b hb hs => apart_not (d0c i hi) hs hb)
       have K3 := (k3.below hbW1).chg ch0 (fun b hb hs => apart_not d02 hs hb)
       have KV := (hv.below hbW1).chg ch0 (fun b hb hs => by have := u0 b hs; have := (uv b hb).1; omega)
       have D02 : Apart (.slice (some ⟨g0, 0, none⟩) (g.1.length + 1) e0) (.slice A2 g.2.2.length c2) := apart_push hat0' d02 (fun b hb => by have := u2 b hb; omega)
       have D0c : ∀ i, i < cs.length → Apart (.slice (some ⟨g0, 0, none⟩) (g.1.length + 1) e0) (gv cs i) := fun i hi => apart_push hat0' (d0c i hi) (fun b hb => by have := uc i hi b hb; omega)
       have D0v : Apart (.slice (some ⟨g0, 0, none⟩) (g.1.length + 1) e0) (.slice Av nx.length cv) := apart_push hat0' (apart_sep u0 (fun b hb => (uv b hb).1)) (fun b hb => by have := (uv b hb).2; omega)
       have bl1 : Below lo w w1 := (hbW1.mono (by omega)).trans (ch0.below (by simp; omega) (fun b hb => (k0.lt b hb).1))
       have cg1 := (Chg.of_below hbW1).trans ch0 (U := fun b => ((Value.slice A0 g.1.length c0).ownBlock = some b ∨ (Value.slice A1 g.2.1.length c1).ownBlock = some b ∨ (Value.slice A2 g.2.2.length c2).ownBlock = some b) ∨ w.heap.size ≤ b) (fun _ h => .inr h) (fun _ h => .inl (.inl h))
       clear r0 hat0 ch0 hg0)
    | (at_builtin
       have tok := hat0'
       clear tok
       (refine wpList_push _ rfl (.tmp 19) (.tmp 21) 28 rfl lo 27 i1 (.slice none 0 0) 24 Try.underlying28 hi1 hy0 hy1 hy2 rfl (.slice A1 g.2.1.length c1) g.2.1.length cs rfl (row_chg K1 ((Chg.set _ _).alloc _) (fun b hb e => by have := u1 b hb; have : b = w.heap.size := e; omega)) w1.heap.size (.slice Av nx.length cv) rfl (by simp [go_sem]) rfl (by omega) (by omega) (by simp; omega) ?_)
       intro g1 e1 w2 r1 hg1 hat1 hlt1
       have hs2 : w1.heap.size < w2.heap.size := by have := hg1.size; simp at this; omega
       have hat1' : (Value.slice A1 g.2.1.length c1).ownBlock = some g1 ∨ g1 = w1.heap.size + 1 := by simpa using hat1
       have ch1 := ((Chg.set (w := w1) ⟨w.heap.size, 0, none⟩ (.slice (some ⟨g0, 0, none⟩) (g.1.length + 1) e0)).alloc (.cells #[.slice Av nx.length cv] 27)).trans (Chg.of_grown hg1) (U := fun x => x = w.heap.size ∨ (Value.slice A1 g.2.1.length c1).ownBlock = some x) (fun _ h => .inl h) (fun _ h => .inr h)
       have B4b : Box w2 w.heap.size 32 #[.slice (some ⟨g0, 0, none⟩) (g.1.length + 1) e0, .slice A1 g.2.1.length c1, .slice A2 g.2.2.length c2] := ((B4.set_ 0 (.slice (some ⟨g0, 0, none⟩) (g.1.length + 1) e0)).alloc _).grown hg1 (fun x hx e => by have := u1 x hx; omega)
       have B8b : Box w2 (w.heap.size + 1) 32 #[.slice none 0 0, .slice none 0 0, .slice none 0 0] := ((B8.far (p := ⟨w.heap.size, 0, none⟩) (by simp) _).alloc _).grown hg1 (fun x hx e => by have := u1 x hx; omega)
       have q20 : w2.cell? ⟨w.heap.size, 1, none⟩ = some (.slice A1 g.2.1.length c1) := B4b.cell 1
       have q21 : w2.cell? ⟨w.heap.size, 2, none⟩ = some (.slice A2 g.2.2.length c2) := B4b.cell 2
       have f20 := B4b.hot 1
       have n1 : ∀ b, (Value.slice A1 g.2.1.length c1).ownBlock = some b → ∀ lo' v xs, OI 2 w1 lo' v xs → v.ownBlock ≠ some b := fun b hb lo' v xs hv hx => own_ne hv K1 (by decide) b hx hb
       have M0 := N0.chg ch1 (fun b hb e => by rcases e with e | e; (rcases v0 b hb with h | h <;> omega); exact n1 b e _ _ _ N0 hb)
       have M2 : OL 2 w2 lo cs (gl g.2.1) := fun i hi => (K2 i hi).chg ch1 (fun b hb e => by rcases e with e | e; (have := uc i hi b hb; omega); exact n1 b e _ _ _ (K2 i hi) hb)
       have M3 := K3.chg ch1 (fun b hb e => by rcases e with e | e; (have := u2 b hb; omega); exact n1 b e _ _ _ K3 hb)
       have MV := KV.chg ch1 (fun b hb e => by rcases e with e | e; (have := (uv b hb).2; omega); exact n1 b e _ _ _ KV hb)
       have v1 := push_block (n := g.2.1.length + 1) (c := e1) hat1' u1
       have bl2 : Below lo w w2 := bl1.trans (ch1.below (by omega) (fun b hb => by rcases hb with e | e; (omega); exact (World.ownsRow.lt K1 b e).1))
       have cg2 := cg1.trans ch1 (U := fun b => ((Value.slice A0 g.1.length c0).ownBlock = some b ∨ (Value.slice A1 g.2.1.length c1).ownBlock = some b ∨ (Value.slice A2 g.2.2.length c2).ownBlock = some b) ∨ w.heap.size ≤ b) (fun _ h => h) (fun _ h => h.elim (fun h => .inr (by omega)) (fun h => .inl (.inr (.inl h))))
       clear hat0' hat1 ch1 hg1 n1)
    | (at_builtin
       refine wpList_push _ rfl (.tmp 26) (.tmp 28) 27 rfl lo 2 i0 (.int .i64 0) 8 Try.underlying27 hi0 hz0 hz1 hz2 rfl (.slice A2 g.2.2.length c2) g.2.2.length (g.2.2.map (Value.int .i64)) rfl (row_chg M3 ((Chg.set _ _).alloc _) (fun b hb e => by have := u2 b hb; have : b = w.heap.size := e; omega)) w2.heap.size (.int .i64 pr) rfl (by simp [go_sem]) rfl (by omega) (by omega) (by simp; omega) ?_
       intro g2 e2 w3 r2 hg2 hat2 hlt2
       have hs3 : w2.heap.size < w3.heap.size := by have := hg2.size; simp at this; omega
       have hat2' : (Value.slice A2 g.2.2.length c2).ownBlock = some g2 ∨ g2 = w2.heap.size + 1 := by simpa using hat2
       have ch2 := ((Chg.set (w := w2) ⟨w.heap.size, 1, none⟩ (.slice (some ⟨g1, 0, none⟩) (g.2.1.length + 1) e1)).alloc (.cells #[.int .i64 pr] 2)).trans (Chg.of_grown hg2) (U := fun x => x = w.heap.size ∨ (Value.slice A2 g.2.2.length c2).ownBlock = some x) (fun _ h => .inl h) (fun _ h => .inr h)
       have B4c : Box w3 w.heap.size 32 #[.slice (some ⟨g0, 0, none⟩) (g.1.length + 1) e0, .slice (some ⟨g1, 0, none⟩) (g.2.1.length + 1) e1, .slice A2 g.2.2.length c2] := ((B4b.set_ 1 (.slice (some ⟨g1, 0, none⟩) (g.2.1.length + 1) e1)).alloc _).grown hg2 (fun x hx e => by have := u2 x hx; omega)
       have B8c : Box w3 (w.heap.size + 1) 32 #[.slice none 0 0, .slice none 0 0, .slice none 0 0] := ((B8b.far (p := ⟨w.heap.size, 1, none⟩) (by simp) _).alloc _).grown hg2 (fun x hx e => by have := u2 x hx; omega)
       have q30 : w3.cell? ⟨w.heap.size, 0, none⟩ = some (.slice (some ⟨g0, 0, none⟩) (g.1.length + 1) e0) := B4c.cell 0
       have q31 : w3.cell? ⟨w.heap.size, 1, none⟩ = some (.slice (some ⟨g1, 0, none⟩) (g.2.1.length + 1) e1) := B4c.cell 1
       have q32 : w3.cell? ⟨w.heap.size, 2, none⟩ = some (.slice A2 g.2.2.length c2) := B4c.cell 2
       have f30 := B4c.hot 2
       have q33 : w3.cell? ⟨w.heap.size + 1, 0, none⟩ = some (.slice none 0 0) := B8c.cell 0
       have q34 : w3.cell? ⟨w.heap.size + 1, 1, none⟩ = some (.slice none 0 0) := B8c.cell 1
       have q35 : w3.cell? ⟨w.heap.size + 1, 2, none⟩ = some (.slice none 0 0) := B8c.cell 2
       have f31 := B8c.hot 0
       have f32 := B8c.hot 1
       have f33 := B8c.hot 2))
  have vcs : ∀ i, i < (cs ++ [Value.slice Av nx.length cv]).length → ∀ b, (gv (cs ++ [Value.slice Av nx.length cv]) i).ownBlock = some b → b < w.heap.size := by
    intro i hi b hb
    rw [List.length_append, List.length_singleton] at hi
    by_cases e : i < cs.length
    · rw [gv_app_lt e] at hb; have := uc i e b hb; omega
    · obtain rfl : i = cs.length := by omega
      rw [gv_app_eq] at hb; exact (uv b hb).2
  have d2cv : ∀ i, i < (cs ++ [Value.slice Av nx.length cv]).length → Apart (.slice A2 g.2.2.length c2) (gv (cs ++ [Value.slice Av nx.length cv]) i) := by
    intro i hi
    rw [List.length_append, List.length_singleton] at hi
    by_cases e : i < cs.length
    · rw [gv_app_lt e]; exact d2c i e
    · obtain rfl : i = cs.length := by omega
      rw [gv_app_eq]; exact apart_sep u2 (fun b hb => (uv b hb).1)
  have D0cv : ∀ i, i < (cs ++ [Value.slice Av nx.length cv]).length → Apart (.slice (some ⟨g0, 0, none⟩) (g.1.length + 1) e0) (gv (cs ++ [Value.slice Av nx.length cv]) i) := by
    intro i hi
    rw [List.length_append, List.length_singleton] at hi
    by_cases e : i < cs.length
    · rw [gv_app_lt e]; exact D0c i e
    · obtain rfl : i = cs.length := by omega
      rw [gv_app_eq]; exact D0v
  have cg3 := cg2.trans ch2 (U := fun b => ((Value.slice A0 g.1.length c0).ownBlock = some b ∨ (Value.slice A1 g.2.1.length c1).ownBlock = some b ∨ (Value.slice A2 g.2.2.length c2).ownBlock = some b) ∨ w.heap.size ≤ b) (fun _ h => h) (fun _ h => h.elim (fun h => .inr (by omega)) (fun h => .inl (.inr (.inr h))))
  have hcl : cs.length = g.2.1.length := by have := row_len K1; omega
  have P2a : OL 2 w2 lo (cs ++ [Value.slice Av nx.length cv]) (gl (g.2.1 ++ [nx])) := M2.app (MV.more hlo) hcl
  have P0 := M0.chg ch2 (fun b hb e => by rcases e with e | e; (rcases v0 b hb with h | h <;> omega); exact apart_not D02 hb e)
  have P1 := row_chg r1 ch2 (fun b hb e => by rcases e with e | e; (rcases v1 b hb with h | h <;> omega); exact own_ne M3 r1 (by decide) b e hb)
  have P2 : OL 2 w3 lo (cs ++ [Value.slice Av nx.length cv]) (gl (g.2.1 ++ [nx])) := fun i hi => (P2a i hi).chg ch2 (fun b hb e => by rcases e with e | e; (have := vcs i hi b hb; omega); exact apart_not (d2cv i hi) e hb)
  have P3 := OI.app r2 rfl
  have v2 := push_block (n := g.2.2.length + 1) (c := e2) hat2' u2
  have ch3 := (((Chg.set (w := w3) ⟨w.heap.size, 2, none⟩ (.slice (some ⟨g2, 0, none⟩) (g.2.2.length + 1) e2)).trans (Chg.set ⟨w.heap.size + 1, 0, none⟩ (.slice (some ⟨g0, 0, none⟩) (g.1.length + 1) e0)) (U := fun x => x = w.heap.size ∨ x = w.heap.size + 1) (fun _ h => .inl h) (fun _ h => .inr h)).trans (Chg.set ⟨w.heap.size + 1, 1, none⟩ (.slice (some ⟨g1, 0, none⟩) (g.2.1.length + 1) e1)) (U := fun x => x = w.heap.size ∨ x = w.heap.size + 1) (fun _ h => h) (fun _ h => .inr h)).trans (Chg.set ⟨w.heap.size + 1, 2, none⟩ (.slice (some ⟨g2, 0, none⟩) (g.2.2.length + 1) e2)) (U := fun x => x = w.heap.size ∨ x = w.heap.size + 1) (fun _ h => h) (fun _ h => .inr h)
  refine bodyPost_ret (v := .agg #[.slice (some ⟨g0, 0, none⟩) (g.1.length + 1) e0, .slice (some ⟨g1, 0, none⟩) (g.2.1.length + 1) e1, .slice (some ⟨g2, 0, none⟩) (g.2.2.length + 1) e2]) (by simp [results, Try.results49, go_sem, q33, q34, q35]) rfl ⟨_, _, _, rfl, ⟨cs ++ [Value.slice Av nx.length cv], ⟨?_, ?_, ?_⟩, ?_, ?_⟩, ?_, ?_⟩
  · exact P0.chg ch3 (fun b hb e => by rcases v0 b hb with h | h <;> omega)
  · have := row_chg P1 ch3 (fun b hb e => by rcases v1 b hb with h | h <;> omega)
    simpa [addV] using this
  · exact fun i hi => (P2 i hi).chg ch3 (fun b hb e => by have := vcs i hi b hb; omega)
  · exact P3.chg ch3 (fun b hb e => by rcases v2 b hb with h | h <;> omega)
  · refine Dis.cons (Dis.cons (dcs.app (fun i hi => apart_sep (uc i hi) (fun b hb => (uv b hb).1))) (fun i hi => apart_push hat2' (d2cv i hi) (fun b hb => by have := vcs i hi b hb; omega))) (fun i hi => ?_)
    rcases i with _ | i
    · rw [gv_cons_zero]
      exact (apart_push hat2' D02.symm (fun b hb => by rcases v0 b hb with h | h <;> omega)).symm
    · rw [gv_cons_succ]
      exact D0cv i (by simpa using hi)
  · exact (bl2.trans (ch2.below (by omega) (fun b hb => by rcases hb with e | e; (omega); exact (M3.lt b e).1))).trans (ch3.below (by omega) (fun b hb => by omega))
  · have cg4 := cg3.trans ch3 (U := fun b => ((Value.slice A0 g.1.length c0).ownBlock = some b ∨ (Value.slice A1 g.2.1.length c1).ownBlock = some b ∨ (Value.slice A2 g.2.2.length c2).ownBlock = some b) ∨ w.heap.size ≤ b) (fun _ h => h) (fun _ h => .inr (by omega))
    exact ⟨cg4.os, cg4.tape, cg4.output, cg4.size, fun k hk hn => cg4.block k hk (fun h => h.elim hn (fun h => by omega))⟩
theorem withVertex (s0 s1 s2 v : Value) (g : ParD) (ow pr : Int) (nx : List Int) (W w : World) (lo : Nat) (hlo : lo ≤ W.heap.size) (ho : OPar W lo s0 s1 s2 g) (hW : Below W.heap.size W w) (hv : OI 2 w W.heap.size v nx) (hsm : small g) :
    Calls Try.prog 49 #[.agg #[s0, s1, s2], .int .i64 ow, .int .i64 pr, v] w fun e w' => ∃ t0 t1 t2, e = .returned (.agg #[t0, t1, t2]) ∧ OPar w' lo t0 t1 t2 (addV g ow pr nx) ∧ Below lo w w' :=
  (withVertexC s0 s1 s2 v g ow pr nx W w lo hlo ho hW hv hsm).mono fun _ _ ⟨t0, t1, t2, h1, h2, h3, _⟩ => ⟨t0, t1, t2, h1, h2, h3⟩
end Go.Proofs.Ytngadlpfheakiaa
