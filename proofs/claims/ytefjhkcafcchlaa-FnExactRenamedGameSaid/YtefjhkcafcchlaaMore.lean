/- l14More: a game with one more vertex; the order of the appends' parts is open. -/
import Derived.Test.YtefjhkcafcchlaaVertex
namespace Go.Proofs.Ytefjhkcafcchlaa
open Go.RowKit

theorem more_end (g : ParD) (ow pr : Int) (nx : List Int) (W w w3 w4 : World) (lo : Nat) (cs : List Value) (v s0 s1 s2 : Value) (hlo : lo ≤ W.heap.size) (hWs : W.heap.size ≤ w.heap.size)
    (bl3 : Below lo w w3) (ch3 : Chg (fun x => x = w.heap.size + 1) w3 w4)
    (P0 : OI 2 w3 lo s0 (g.1 ++ [ow])) (P1 : w3.ownsRow lo 27 1 s1 (g.2.1.length + 1) (cs ++ [v])) (P2 : OL 2 w3 lo (cs ++ [v]) (gl (g.2.1 ++ [nx]))) (P3 : OI 2 w3 lo s2 (g.2.2 ++ [pr]))
    (v0 : ∀ b, s0.ownBlock = some b → b ≠ w.heap.size + 1) (v1 : ∀ b, s1.ownBlock = some b → b ≠ w.heap.size + 1) (vc : ∀ i, i < (cs ++ [v]).length → ∀ b, (gv (cs ++ [v]) i).ownBlock = some b → b < w.heap.size) (v2 : ∀ b, s2.ownBlock = some b → b ≠ w.heap.size + 1)
    (dcs : Dis (cs ++ [v])) (D2 : ∀ i, i < (cs ++ [v]).length → Apart s2 (gv (cs ++ [v]) i)) (D20 : Apart s2 s0) (D0 : ∀ i, i < (cs ++ [v]).length → Apart s0 (gv (cs ++ [v]) i)) :
    OPar w4 lo s0 s1 s2 (addV g ow pr nx) ∧ Below lo w w4 := by
  refine ⟨⟨cs ++ [v], ⟨?_, ?_, ?_⟩, ?_, ?_⟩, ?_⟩
  · exact P0.chg ch3 (fun b hb e => v0 b hb e)
  · have := row_chg P1 ch3 (fun b hb e => v1 b hb e)
    simpa [addV] using this
  · exact fun i hi => (P2 i hi).chg ch3 (fun b hb e => by have := vc i hi b hb; omega)
  · exact P3.chg ch3 (fun b hb e => v2 b hb e)
  · refine Dis.cons (Dis.cons dcs D2) (fun i hi => ?_)
    rcases i with _ | i
    · rw [gv_cons_zero]
      exact D20.symm
    · rw [gv_cons_succ]
      exact D0 i (by simpa using hi)
  · exact bl3.trans (ch3.below (by have := bl3.size; omega) (fun b hb => by omega))

set_option maxHeartbeats 8000000 in
theorem l14More (s0 s1 s2 v : Value) (g : ParD) (ow pr : Int) (nx : List Int) (W w : World) (lo : Nat) (hlo : lo ≤ W.heap.size) (ho : OPar W lo s0 s1 s2 g) (hW : Below W.heap.size W w) (hv : OI 2 w W.heap.size v nx) (hsm : small g) :
    Calls Try.prog 116 #[.agg #[s0, s1, s2], .int .i64 ow, .int .i64 pr, v] w fun e w' => ∃ t0 t1 t2, e = .returned (.agg #[t0, t1, t2]) ∧ OPar w' lo t0 t1 t2 (addV g ow pr nx) ∧ Below lo w w' := by
  have ho' := ho
  obtain ⟨A0, c0, A1, c1, A2, c2, rfl, rfl, rfl⟩ := ho'.form
  obtain ⟨cs, h1, h2, h3⟩ := ho
  obtain ⟨h01, h11, h21⟩ := h1
  obtain ⟨Av, cv, rfl⟩ := hv.form
  obtain ⟨m1, m2, m3⟩ := hsm
  obtain ⟨i0, hi0, hz0, hz1, hz2⟩ := info_parts infoI'
  obtain ⟨i1, hi1, hy0, hy1, hy2⟩ := info_parts infoII
  have hWs := hW.size
  have k0 := h01.below hW
  have k1 := row_below h11 hW
  have k2 := h21.below hW
  have k3 := h2.below hW
  -- all blocks of the game lie below W's end, those of the new row above it
  have u0 : ∀ b, (Value.slice A0 g.1.length c0).ownBlock = some b → b < W.heap.size := fun b hb => (h01.lt b hb).2
  have u1 : ∀ b, (Value.slice A1 g.2.1.length c1).ownBlock = some b → b < W.heap.size := fun b hb => (World.ownsRow.lt h11 b hb).2
  have u2 : ∀ b, (Value.slice A2 g.2.2.length c2).ownBlock = some b → b < W.heap.size := fun b hb => (h2.lt b hb).2
  have uc : ∀ i, i < cs.length → ∀ b, (gv cs i).ownBlock = some b → b < W.heap.size := fun i hi b hb => (h21.lt i hi b hb).2
  have uv : ∀ b, (Value.slice Av nx.length cv).ownBlock = some b → W.heap.size ≤ b ∧ b < w.heap.size := fun b hb => hv.lt b hb
  have d02 : Apart (.slice A0 g.1.length c0) (.slice A2 g.2.2.length c2) := h3 0 1 (by simp) (by simp) (by omega)
  have d0c : ∀ i, i < cs.length → Apart (.slice A0 g.1.length c0) (gv cs i) := fun i hi => h3.skip.head hi
  have d2c : ∀ i, i < cs.length → Apart (.slice A2 g.2.2.length c2) (gv cs i) := fun i hi => h3.tail.head hi
  have dcs : Dis cs := h3.tail.tail
  clear h3 h01 h11 h21 h2 ho'
  go_enter Try.func116, Try.ntmps116
  have p00 : (w.alloc (.cells #[.slice A0 g.1.length c0, .slice A1 g.2.1.length c1, .slice A2 g.2.2.length c2] 44)).cell? ⟨w.heap.size, 0, none⟩ = some (.slice A0 g.1.length c0) := (Box.new _ _ _).cell 0
  have p01 : (w.alloc (.cells #[.slice A0 g.1.length c0, .slice A1 g.2.1.length c1, .slice A2 g.2.2.length c2] 44)).cell? ⟨w.heap.size, 1, none⟩ = some (.slice A1 g.2.1.length c1) := (Box.new _ _ _).cell 1
  have p02 : (w.alloc (.cells #[.slice A0 g.1.length c0, .slice A1 g.2.1.length c1, .slice A2 g.2.2.length c2] 44)).cell? ⟨w.heap.size, 2, none⟩ = some (.slice A2 g.2.2.length c2) := (Box.new _ _ _).cell 2
  go_wp2_with fail
  go_region_held3 (fun w' => w'.cell? ⟨w.heap.size, 0, none⟩ = some (.slice A0 g.1.length c0) ∧ w'.cell? ⟨w.heap.size, 1, none⟩ = some (.slice A1 g.2.1.length c1) ∧ w'.cell? ⟨w.heap.size, 2, none⟩ = some (.slice A2 g.2.2.length c2))
    (first | ((refine ⟨?_, ?_, ?_⟩ <;> repeat (first | with_reducible assumption | with_reducible refine keepD ?_ | with_reducible refine keepA ?_)); done) | (refine ⟨?_, ?_, ?_⟩ <;> simp [World.cell?_setCell_other, q30, q31, q32]))
    (first
      | (refine step_push _ (by rfl) (.tmp 11) (.tmp 13) 27 (by rfl) lo 2 i0 (.int .i64 0) 8 Try.underlying27 hi0 hz0 hz1 hz2 rfl (.slice A0 g.1.length c0) g.1.length (g.1.map (Value.int .i64)) (by rfl) (k0.below (by repeat (first | with_reducible exact Below.refl _ _ | with_reducible refine Below.drew ?_ | with_reducible refine below_alloc (Nat.le_refl _) ?_))) _ (.int .i64 ow) (by rfl) (by simp [go_sem]) rfl (by omega) (by omega) (by (try simp); omega) ?_
         intro g0 e0 w1 r0 hg0 hat0 hlt0
         have ch0 := Chg.of_grown hg0
         have hs1 : w.heap.size + 2 < w1.heap.size := by have := hg0.size; (try simp at this); omega
         have hat0' : (Value.slice A0 g.1.length c0).ownBlock = some g0 ∨ w.heap.size + 2 ≤ g0 := by
           rcases hat0 with h | h
           · exact .inl h
           · right; (try simp at h); omega
         have B4 : Box w1 w.heap.size 44 #[.slice A0 g.1.length c0, .slice A1 g.2.1.length c1, .slice A2 g.2.2.length c2] := Box.grown (by repeat (first | with_reducible exact Box.new' rfl | with_reducible exact Box.new' (by simp) | with_reducible refine Box.alloc ?_ _ | with_reducible refine Box.drew ?_)) hg0 (fun x hx e => by have := u0 x hx; omega)
         have B8 : Box w1 (w.heap.size + 1) 44 #[.slice none 0 0, .slice none 0 0, .slice none 0 0] := Box.grown (by repeat (first | with_reducible exact Box.new' rfl | with_reducible exact Box.new' (by simp) | with_reducible refine Box.alloc ?_ _ | with_reducible refine Box.drew ?_)) hg0 (fun x hx e => by have := u0 x hx; omega)
         have q10 : w1.cell? ⟨w.heap.size, 0, none⟩ = some (.slice A0 g.1.length c0) := B4.cell 0
         have q11 : w1.cell? ⟨w.heap.size, 1, none⟩ = some (.slice A1 g.2.1.length c1) := B4.cell 1
         have q12 : w1.cell? ⟨w.heap.size, 2, none⟩ = some (.slice A2 g.2.2.length c2) := B4.cell 2
         have keep1 := grown_keep (B := W.heap.size) hg0 u0
         have N0 := OI.app r0 rfl
         have v0 : ∀ b, (Value.slice (some ⟨g0, 0, none⟩) (g.1.length + 1) e0).ownBlock = some b → b < W.heap.size ∨ (w.heap.size + 2 ≤ b ∧ b < w1.heap.size) := fun b hb => by
           simp [Value.ownBlock] at hb; subst hb; exact hat0'.imp (u0 g0) (fun e => ⟨e, hlt0⟩)
         have K1 := row_chg (row_below k1 (by repeat (first | with_reducible exact Below.refl _ _ | with_reducible refine Below.drew ?_ | with_reducible refine below_alloc (Nat.le_refl _) ?_))) ch0 (fun b hb hs => own_ne (k0.below (by repeat (first | with_reducible exact Below.refl _ _ | with_reducible refine Below.drew ?_ | with_reducible refine below_alloc (Nat.le_refl _) ?_))) (row_below k1 (by repeat (first | with_reducible exact Below.refl _ _ | with_reducible refine Below.drew ?_ | with_reducible refine below_alloc (Nat.le_refl _) ?_))) (by decide) b hs hb)
         have K2 : OL 2 w1 lo cs (gl g.2.1) := fun i hi => ((k2.below (by repeat (first | with_reducible exact Below.refl _ _ | with_reducible refine Below.drew ?_ | with_reducible refine below_alloc (Nat.le_refl _) ?_))) i hi).chg ch0 (fun b hb hs => apart_not (d0c i hi) hs hb)
         have K3 := (k3.below (by repeat (first | with_reducible exact Below.refl _ _ | with_reducible refine Below.drew ?_ | with_reducible refine below_alloc (Nat.le_refl _) ?_))).chg ch0 (fun b hb hs => apart_not d02 hs hb)
         have KV := (hv.below (by repeat (first | with_reducible exact Below.refl _ _ | with_reducible refine Below.drew ?_ | with_reducible refine below_alloc (Nat.le_refl _) ?_))).chg ch0 (fun b hb hs => by have := u0 b hs; have := (uv b hb).1; omega)
         have D02 : Apart (.slice (some ⟨g0, 0, none⟩) (g.1.length + 1) e0) (.slice A2 g.2.2.length c2) := apart_push' hat0' d02 (fun b hb => by have := u2 b hb; omega)
         have D0c : ∀ i, i < cs.length → Apart (.slice (some ⟨g0, 0, none⟩) (g.1.length + 1) e0) (gv cs i) := fun i hi => apart_push' hat0' (d0c i hi) (fun b hb => by have := uc i hi b hb; omega)
         have D0v : Apart (.slice (some ⟨g0, 0, none⟩) (g.1.length + 1) e0) (.slice Av nx.length cv) := apart_push' hat0' (apart_sep u0 (fun b hb => (uv b hb).1)) (fun b hb => by have := (uv b hb).2; omega)
         have bl1 : Below lo w w1 := Below.trans (by repeat (first | with_reducible exact Below.refl _ _ | with_reducible refine Below.drew ?_ | with_reducible refine below_alloc (by omega) ?_)) (ch0.below (by (try simp); omega) (fun b hb => (k0.lt b hb).1))
         clear r0 hat0 hat0' ch0 hg0 hlt0)
      | (have tok := N0
         clear tok
         refine step_push _ (by rfl) (.tmp 17) (.tmp 19) 28 (by rfl) lo 27 i1 (.slice none 0 0) 24 Try.underlying28 hi1 hy0 hy1 hy2 rfl (.slice A1 g.2.1.length c1) g.2.1.length cs (by rfl) (row_below K1 (by repeat (first | with_reducible exact Below.refl _ _ | with_reducible refine Below.drew ?_ | with_reducible refine below_alloc (Nat.le_refl _) ?_))) _ (.slice Av nx.length cv) (by rfl) (by first | (simp [go_sem]; done) | exact keep1 _ _ _ (by omega) (by simp [go_sem]) | exact keeps_alloc _ _ _ _ (keep1 _ _ _ (by omega) (by simp [go_sem]))) rfl (by omega) (by omega) (by (try simp); omega) ?_
         intro g1 e1 w2 r1 hg1 hat1 hlt1
         have ch1 := Chg.of_grown hg1
         have hs2 : w1.heap.size ≤ w2.heap.size := by have := hg1.size; (try simp at this); omega
         have hat1' : (Value.slice A1 g.2.1.length c1).ownBlock = some g1 ∨ w1.heap.size ≤ g1 := by
           rcases hat1 with h | h
           · exact .inl h
           · right; (try simp at h); omega
         have B4b : Box w2 w.heap.size 44 #[.slice A0 g.1.length c0, .slice A1 g.2.1.length c1, .slice A2 g.2.2.length c2] := Box.grown (by repeat (first | with_reducible exact B4 | with_reducible refine Box.alloc ?_ _ | with_reducible refine Box.drew ?_)) hg1 (fun x hx e => by have := u1 x hx; omega)
         have B8b : Box w2 (w.heap.size + 1) 44 #[.slice none 0 0, .slice none 0 0, .slice none 0 0] := Box.grown (by repeat (first | with_reducible exact B8 | with_reducible refine Box.alloc ?_ _ | with_reducible refine Box.drew ?_)) hg1 (fun x hx e => by have := u1 x hx; omega)
         have q20 : w2.cell? ⟨w.heap.size, 0, none⟩ = some (.slice A0 g.1.length c0) := B4b.cell 0
         have q21 : w2.cell? ⟨w.heap.size, 1, none⟩ = some (.slice A1 g.2.1.length c1) := B4b.cell 1
         have q22 : w2.cell? ⟨w.heap.size, 2, none⟩ = some (.slice A2 g.2.2.length c2) := B4b.cell 2
         have keep2 := grown_keep (B := W.heap.size) hg1 u1
         have M0 := (N0.below (by repeat (first | with_reducible exact Below.refl _ _ | with_reducible refine Below.drew ?_ | with_reducible refine below_alloc (Nat.le_refl _) ?_))).chg ch1 (fun b hb e => own_ne (N0.below (by repeat (first | with_reducible exact Below.refl _ _ | with_reducible refine Below.drew ?_ | with_reducible refine below_alloc (Nat.le_refl _) ?_))) (row_below K1 (by repeat (first | with_reducible exact Below.refl _ _ | with_reducible refine Below.drew ?_ | with_reducible refine below_alloc (Nat.le_refl _) ?_))) (by decide) b hb e)
         have M2 : OL 2 w2 lo cs (gl g.2.1) := fun i hi => ((K2.below (by repeat (first | with_reducible exact Below.refl _ _ | with_reducible refine Below.drew ?_ | with_reducible refine below_alloc (Nat.le_refl _) ?_))) i hi).chg ch1 (fun b hb e => own_ne ((K2.below (by repeat (first | with_reducible exact Below.refl _ _ | with_reducible refine Below.drew ?_ | with_reducible refine below_alloc (Nat.le_refl _) ?_))) i hi) (row_below K1 (by repeat (first | with_reducible exact Below.refl _ _ | with_reducible refine Below.drew ?_ | with_reducible refine below_alloc (Nat.le_refl _) ?_))) (by decide) b hb e)
         have M3 := (K3.below (by repeat (first | with_reducible exact Below.refl _ _ | with_reducible refine Below.drew ?_ | with_reducible refine below_alloc (Nat.le_refl _) ?_))).chg ch1 (fun b hb e => own_ne (K3.below (by repeat (first | with_reducible exact Below.refl _ _ | with_reducible refine Below.drew ?_ | with_reducible refine below_alloc (Nat.le_refl _) ?_))) (row_below K1 (by repeat (first | with_reducible exact Below.refl _ _ | with_reducible refine Below.drew ?_ | with_reducible refine below_alloc (Nat.le_refl _) ?_))) (by decide) b hb e)
         have MV := (KV.below (by repeat (first | with_reducible exact Below.refl _ _ | with_reducible refine Below.drew ?_ | with_reducible refine below_alloc (Nat.le_refl _) ?_))).chg ch1 (fun b hb e => own_ne (KV.below (by repeat (first | with_reducible exact Below.refl _ _ | with_reducible refine Below.drew ?_ | with_reducible refine below_alloc (Nat.le_refl _) ?_))) (row_below K1 (by repeat (first | with_reducible exact Below.refl _ _ | with_reducible refine Below.drew ?_ | with_reducible refine below_alloc (Nat.le_refl _) ?_))) (by decide) b hb e)
         have v1 : ∀ b, (Value.slice (some ⟨g1, 0, none⟩) (g.2.1.length + 1) e1).ownBlock = some b → b < W.heap.size ∨ (w1.heap.size ≤ b ∧ b < w2.heap.size) := fun b hb => by
           simp [Value.ownBlock] at hb; subst hb; exact hat1'.imp (u1 g1) (fun e => ⟨e, hlt1⟩)
         have bl2 : Below lo w w2 := bl1.trans (Below.trans (by repeat (first | with_reducible exact Below.refl _ _ | with_reducible refine Below.drew ?_ | with_reducible refine below_alloc (by omega) ?_)) (ch1.below (by (try simp); omega) (fun b hb => (World.ownsRow.lt K1 b hb).1)))
         clear hat1 hat1' ch1 hg1 hlt1 N0)
      | (have tok := M3
         clear tok
         refine step_push _ (by rfl) (.tmp 23) (.tmp 25) 27 (by rfl) lo 2 i0 (.int .i64 0) 8 Try.underlying27 hi0 hz0 hz1 hz2 rfl (.slice A2 g.2.2.length c2) g.2.2.length (g.2.2.map (Value.int .i64)) (by rfl) (M3.below (by repeat (first | with_reducible exact Below.refl _ _ | with_reducible refine Below.drew ?_ | with_reducible refine below_alloc (Nat.le_refl _) ?_))) _ (.int .i64 pr) (by rfl) (by first | (simp [go_sem]; done) | exact keep2 _ _ _ (by omega) (by simp [go_sem]) | exact keep2 _ _ _ (by omega) (keep1 _ _ _ (by omega) (by simp [go_sem])) | exact keep2 _ _ _ (by omega) (keeps_alloc _ _ _ _ (keep1 _ _ _ (by omega) (by simp [go_sem])))) rfl (by omega) (by omega) (by (try simp); omega) ?_
         intro g2 e2 w3 r2 hg2 hat2 hlt2
         have ch2 := Chg.of_grown hg2
         have hs3 : w2.heap.size ≤ w3.heap.size := by have := hg2.size; (try simp at this); omega
         have hat2' : (Value.slice A2 g.2.2.length c2).ownBlock = some g2 ∨ w2.heap.size ≤ g2 := by
           rcases hat2 with h | h
           · exact .inl h
           · right; (try simp at h); omega
         have B4c : Box w3 w.heap.size 44 #[.slice A0 g.1.length c0, .slice A1 g.2.1.length c1, .slice A2 g.2.2.length c2] := Box.grown (by repeat (first | with_reducible exact B4b | with_reducible refine Box.alloc ?_ _ | with_reducible refine Box.drew ?_)) hg2 (fun x hx e => by have := u2 x hx; omega)
         have B8c : Box w3 (w.heap.size + 1) 44 #[.slice none 0 0, .slice none 0 0, .slice none 0 0] := Box.grown (by repeat (first | with_reducible exact B8b | with_reducible refine Box.alloc ?_ _ | with_reducible refine Box.drew ?_)) hg2 (fun x hx e => by have := u2 x hx; omega)
         have vcs : ∀ i, i < (cs ++ [Value.slice Av nx.length cv]).length → ∀ b, (gv (cs ++ [Value.slice Av nx.length cv]) i).ownBlock = some b → b < w.heap.size := by
           intro i hi b hb
           rw [List.length_append, List.length_singleton] at hi
           by_cases e : i < cs.length
           · rw [gv_app_lt e] at hb; have := uc i e b hb; omega
           · obtain rfl : i = cs.length := by omega
             rw [gv_app_eq] at hb; exact (uv b hb).2
         have d2cv : ∀ i, i < (cs ++ [Value.slice Av nx.length cv]).length → Apart (.slice A2 g.2.2.length c2) (gv (cs ++ [Value.slice Av nx.length cv]) i) := by
           intro i hi
           rw [List.length_append, List.length_singleton] at hi
           by_cases e : i < cs.length
           · rw [gv_app_lt e]; exact d2c i e
           · obtain rfl : i = cs.length := by omega
             rw [gv_app_eq]; exact apart_sep u2 (fun b hb => (uv b hb).1)
         have P2a : OL 2 w2 lo (cs ++ [Value.slice Av nx.length cv]) (gl (g.2.1 ++ [nx])) := M2.app (MV.more hlo) (by have := row_len K1; omega)
         have P0 := (M0.below (by repeat (first | with_reducible exact Below.refl _ _ | with_reducible refine Below.drew ?_ | with_reducible refine below_alloc (Nat.le_refl _) ?_))).chg ch2 (fun b hb e => apart_not D02 hb e)
         have P1 := row_chg (row_below r1 (by repeat (first | with_reducible exact Below.refl _ _ | with_reducible refine Below.drew ?_ | with_reducible refine below_alloc (Nat.le_refl _) ?_))) ch2 (fun b hb e => own_ne (M3.below (by repeat (first | with_reducible exact Below.refl _ _ | with_reducible refine Below.drew ?_ | with_reducible refine below_alloc (Nat.le_refl _) ?_))) (row_below r1 (by repeat (first | with_reducible exact Below.refl _ _ | with_reducible refine Below.drew ?_ | with_reducible refine below_alloc (Nat.le_refl _) ?_))) (by decide) b e hb)
         have P2 : OL 2 w3 lo (cs ++ [Value.slice Av nx.length cv]) (gl (g.2.1 ++ [nx])) := fun i hi => ((P2a.below (by repeat (first | with_reducible exact Below.refl _ _ | with_reducible refine Below.drew ?_ | with_reducible refine below_alloc (Nat.le_refl _) ?_))) i hi).chg ch2 (fun b hb e => apart_not (d2cv i hi) e hb)
         have P3 := OI.app r2 rfl
         have v2 : ∀ b, (Value.slice (some ⟨g2, 0, none⟩) (g.2.2.length + 1) e2).ownBlock = some b → b < W.heap.size ∨ (w2.heap.size ≤ b ∧ b < w3.heap.size) := fun b hb => by
           simp [Value.ownBlock] at hb; subst hb; exact hat2'.imp (u2 g2) (fun e => ⟨e, hlt2⟩)
         have D2 : ∀ i, i < (cs ++ [Value.slice Av nx.length cv]).length → Apart (.slice (some ⟨g2, 0, none⟩) (g.2.2.length + 1) e2) (gv (cs ++ [Value.slice Av nx.length cv]) i) := fun i hi => apart_push' hat2' (d2cv i hi) (fun b hb => by have := vcs i hi b hb; omega)
         have D20 : Apart (.slice (some ⟨g2, 0, none⟩) (g.2.2.length + 1) e2) (.slice (some ⟨g0, 0, none⟩) (g.1.length + 1) e0) := apart_push' hat2' D02.symm (fun b hb => by rcases v0 b hb with h | h <;> omega)
         have bl3 : Below lo w w3 := bl2.trans (Below.trans (by repeat (first | with_reducible exact Below.refl _ _ | with_reducible refine Below.drew ?_ | with_reducible refine below_alloc (by omega) ?_)) (ch2.below (by (try simp); omega) (fun b hb => (M3.lt b hb).1)))
         have q30 : w3.cell? ⟨w.heap.size, 0, none⟩ = some (.slice A0 g.1.length c0) := B4c.cell 0
         have q31 : w3.cell? ⟨w.heap.size, 1, none⟩ = some (.slice A1 g.2.1.length c1) := B4c.cell 1
         have q32 : w3.cell? ⟨w.heap.size, 2, none⟩ = some (.slice A2 g.2.2.length c2) := B4c.cell 2
         have q33 : w3.cell? ⟨w.heap.size + 1, 0, none⟩ = some (.slice none 0 0) := B8c.cell 0
         have q34 : w3.cell? ⟨w.heap.size + 1, 1, none⟩ = some (.slice none 0 0) := B8c.cell 1
         have q35 : w3.cell? ⟨w.heap.size + 1, 2, none⟩ = some (.slice none 0 0) := B8c.cell 2
         have f31 := B8c.hot 0
         have f32 := B8c.hot 1
         have f33 := B8c.hot 2
         clear hat2 hat2' ch2 hg2 hlt2 r2))
  all_goals
    go_wp2
    have D0cv : ∀ i, i < (cs ++ [Value.slice Av nx.length cv]).length → Apart (.slice (some ⟨g0, 0, none⟩) (g.1.length + 1) e0) (gv (cs ++ [Value.slice Av nx.length cv]) i) := by
      intro i hi
      rw [List.length_append, List.length_singleton] at hi
      by_cases e : i < cs.length
      · rw [gv_app_lt e]; exact D0c i e
      · obtain rfl : i = cs.length := by omega
        rw [gv_app_eq]; exact D0v
    have ch3 := ((Chg.set (w := w3) ⟨w.heap.size + 1, 0, none⟩ (.slice (some ⟨g0, 0, none⟩) (g.1.length + 1) e0)).trans (Chg.set ⟨w.heap.size + 1, 1, none⟩ (.slice (some ⟨g1, 0, none⟩) (g.2.1.length + 1) e1)) (U := fun x => x = w.heap.size + 1) (fun _ h => h) (fun _ h => h)).trans (Chg.set ⟨w.heap.size + 1, 2, none⟩ (.slice (some ⟨g2, 0, none⟩) (g.2.2.length + 1) e2)) (U := fun x => x = w.heap.size + 1) (fun _ h => h) (fun _ h => h)
    have fin := more_end g ow pr nx W w w3 _ lo cs _ _ _ _ hlo hWs bl3 ch3 P0 P1 P2 P3 (fun b hb => by rcases v0 b hb with h | h <;> omega) (fun b hb => by rcases v1 b hb with h | h <;> omega) vcs (fun b hb => by rcases v2 b hb with h | h <;> omega)
      (dcs.app (fun i hi => apart_sep (uc i hi) (fun b hb => (uv b hb).1))) D2 D20 D0cv
    exact bodyPost_ret (v := .agg #[.slice (some ⟨g0, 0, none⟩) (g.1.length + 1) e0, .slice (some ⟨g1, 0, none⟩) (g.2.1.length + 1) e1, .slice (some ⟨g2, 0, none⟩) (g.2.2.length + 1) e2]) (by simp [results, Try.results116, go_sem, q33, q34, q35]) rfl ⟨_, _, _, rfl, fin.1, fin.2⟩
end Go.Proofs.Ytefjhkcafcchlaa
