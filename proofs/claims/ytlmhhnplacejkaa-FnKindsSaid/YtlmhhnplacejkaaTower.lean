/- TowerGame, spec. TowerGame, impl. -/
import Derived.Test.YtlmhhnplacejkaaUse
namespace Go.Proofs.Ytlmhhnplacejkaa
open Go.RowKit

/-- the owner, the successors of vertex k; the tower's first k vertices -/
def tow (kept : Bool) (k : Nat) : Int := if kept then (k : Int) % 2 else 1 - (k : Int) % 2
def tnx (k : Nat) : List Int := if k = 0 then [(k : Int)] else [(k : Int) - 1, (k : Int)]
def towerUp (kept : Bool) (k : Nat) : ParD := ((List.range k).map (tow kept), (List.range k).map tnx, (List.range k).map (fun (v : Nat) => (v : Int)))
theorem towerUp_succ (kept : Bool) (k : Nat) : towerUp kept (k + 1) = addV (towerUp kept k) (tow kept k) (k : Int) (tnx k) := by
  unfold towerUp addV
  rw [List.range_succ, List.map_append, List.map_append, List.map_append]
  rfl
theorem towerUp_small {kept : Bool} {k : Nat} (h : k ≤ 41) : small (towerUp kept k) := by
  unfold small towerUp
  simp
  omega
def okTower (n : Int) : Bool := inR n 1 41
def towerP (n : Int) (kept : Bool) : ParD := if okTower n = true then towerUp kept n.toNat else ([], [], [])
theorem towerP_no {n : Int} {kept : Bool} (h : okTower n = false) : towerP n kept = ([], [], []) := by unfold towerP; rw [h]; rfl
theorem towerP_yes {n : Nat} {kept : Bool} (h : okTower n = true) : towerP n kept = towerUp kept n := by unfold towerP; rw [if_pos h]; rfl
theorem tow_t (k : Nat) : tow true k = (k : Int) % 2 := rfl
theorem tow_f (k : Nat) : tow false k = 1 - (k : Int) % 2 := rfl
theorem tnx_z {k : Nat} (h : k = 0) : tnx k = [(k : Int)] := if_pos h
theorem tnx_s {k : Nat} (h : k ≠ 0) : tnx k = [(k : Int) - 1, (k : Int)] := if_neg h
theorem tower_tot (n : Int) (kept : Bool) : (ptot (towerP n kept) : Int) ≤ 1048576 := by
  unfold towerP
  split
  · rename_i h
    have h' := of_decide_eq_true h
    unfold towerUp ptot artot
    have := tot_ones tnx n.toNat 2 (fun v => by unfold tnx; split <;> simp)
    simp
    omega
  · simp [ptot, artot, tot]
theorem OI.lit1' {E : TypeId} {w : World} {B b : Nat} {x : Int} (hb : b = w.heap.size) (hB : B ≤ w.heap.size) : OI E (w.alloc (.cells #[.int .i64 x] E)) B (.slice (some ⟨b, 0, none⟩) 1 1) [x] := by subst hb; exact OI.lit1 hB
theorem OI.lit2' {E : TypeId} {w : World} {B b : Nat} {x y : Int} (hb : b = w.heap.size) (hB : B ≤ w.heap.size) : OI E (w.alloc (.cells #[.int .i64 x, .int .i64 y] E)) B (.slice (some ⟨b, 0, none⟩) 2 2) [x, y] := by subst hb; exact OI.lit2 hB

end Go.Proofs.Ytlmhhnplacejkaa
namespace Go.Proofs.Ytlmhhnplacejkaa
open Go.RowKit

set_option maxHeartbeats 1600000 in
theorem implTower (n : Int) (kept : Bool) (w : World) (B : Nat) (hB : B ≤ w.heap.size) :
    Calls Try.prog 38 #[.int .i64 n, .bool kept] w fun e w' => ∃ s0 s1 s2, e = .returned (.tuple #[.agg #[s0, s1, s2], .bool (okTower n)]) ∧ OPar w' B s0 s1 s2 (towerP n kept) ∧ Below B w w' := by
  by_cases h1 : okTower n = true
  · have h1' := of_decide_eq_true h1
    obtain ⟨N, rfl⟩ : ∃ N : Nat, n = (N : Int) := ⟨n.toNat, by omega⟩
    have hE := Lib.hid h1
    have hn1 : (1 : Int) ≤ (N : Int) := h1'.1
    have hn2 : (N : Int) ≤ 41 := h1'.2
    clear h1 h1'
    go_enter Try.func38, Try.ntmps38
    go_wp2
    go_loopw [19] (fun i wr => ∃ (k : Nat) (s0 s1 s2 : Value), k ≤ N ∧ i = .int .i64 k ∧ Below w.heap.size w wr ∧ w.heap.size + 2 ≤ wr.heap.size ∧
        Box wr w.heap.size 33 #[.slice none 0 0, .slice none 0 0, .slice none 0 0] ∧ Box wr (w.heap.size + 1) 33 #[s0, s1, s2] ∧ OPar wr (w.heap.size + 2) s0 s1 s2 (towerUp kept k)) (fun i _ => N - (intOf i).toNat)
    case atStart => exact ⟨0, _, _, _, Nat.zero_le _, rfl, below_alloc (Nat.le_refl _) (below_alloc (Nat.le_refl _) (Below.refl _ _)), by simp, (Box.new _ _ _).alloc _, Box.new' (by simp), OPar.nil _ _⟩
    case round =>
      obtain ⟨k, s0, s1, s2, hk, rfl, hbr, hsz, hB2, hB5, hop⟩ := hrel
      obtain ⟨A0, c0, A1, c1, A2, c2, rfl, rfl, rfl⟩ := hop.form
      by_cases hlt : k < N
      · have hki : (k : Int) < (N : Int) := by omega
        have hx0 : w.heap.size < wr.heap.size := by omega
        have hx1 : w.heap.size + 1 < wr.heap.size := by omega
        cases kept
        · by_cases hk0 : k = 0
          · have e1 : IntKind.i64.wrap ((k : Int) + 1) = (k : Int) + 1 := IntWalk.i64_in _ (by omega)
            have e2 : IntKind.i64.wrap (1 - (k : Int) % 2) = 1 - (k : Int) % 2 := IntWalk.i64_in _ (by omega)
            have hz : ¬ (0 : Int) < (k : Int) := by omega
            have hv : OI 2 (wr.alloc (.cells #[.int .i64 (k : Int)] 2)) wr.heap.size (.slice (some ⟨wr.heap.size, 0, none⟩) 1 1) (tnx k) := by rw [tnx_z hk0]; exact OI.lit1' rfl (Nat.le_refl _)
            have hbv : Below wr.heap.size wr (wr.alloc (.cells #[.int .i64 (k : Int)] 2)) := below_alloc (Nat.le_refl _) (Below.refl _ _)
            have hzs : wr.heap.size ≤ (wr.alloc (.cells #[.int .i64 (k : Int)] 2)).heap.size := hbv.size
            have q0 : wr.cell? ⟨w.heap.size + 1, 0, none⟩ = some (.slice A0 (towerUp false k).1.length c0) := hB5.cell 0
            have r0 : ∀ o, (wr.alloc o).cell? ⟨w.heap.size + 1, 0, none⟩ = some (.slice A0 (towerUp false k).1.length c0) := fun o => keepA q0
            have t0 : ∀ o o', ((wr.alloc o).alloc o').cell? ⟨w.heap.size + 1, 0, none⟩ = some (.slice A0 (towerUp false k).1.length c0) := fun o o' => keepA (keepA q0)
            have q1 : wr.cell? ⟨w.heap.size + 1, 1, none⟩ = some (.slice A1 (towerUp false k).2.1.length c1) := hB5.cell 1
            have r1 : ∀ o, (wr.alloc o).cell? ⟨w.heap.size + 1, 1, none⟩ = some (.slice A1 (towerUp false k).2.1.length c1) := fun o => keepA q1
            have t1 : ∀ o o', ((wr.alloc o).alloc o').cell? ⟨w.heap.size + 1, 1, none⟩ = some (.slice A1 (towerUp false k).2.1.length c1) := fun o o' => keepA (keepA q1)
            have q2 : wr.cell? ⟨w.heap.size + 1, 2, none⟩ = some (.slice A2 (towerUp false k).2.2.length c2) := hB5.cell 2
            have r2 : ∀ o, (wr.alloc o).cell? ⟨w.heap.size + 1, 2, none⟩ = some (.slice A2 (towerUp false k).2.2.length c2) := fun o => keepA q2
            have t2 : ∀ o o', ((wr.alloc o).alloc o').cell? ⟨w.heap.size + 1, 2, none⟩ = some (.slice A2 (towerUp false k).2.2.length c2) := fun o o' => keepA (keepA q2)
            clear hk0
            go_wp2_with fail
            refine (withVertex _ _ _ _ (towerUp false k) (tow false k) (k : Int) (tnx k) wr _ (w.heap.size + 2) hsz hop hbv hv (towerUp_small (by omega))).mono ?_; rintro e w2 ⟨t0, t1, t2, rfl, ho2, hb2⟩
            obtain ⟨C0, d0, C1, d1, C2, d2, rfl, rfl, rfl⟩ := ho2.form
            have B2b : Box w2 w.heap.size 33 #[.slice none 0 0, .slice none 0 0, .slice none 0 0] := Box.below (hB2.alloc _) hb2 (by omega)
            have B5b : Box w2 (w.heap.size + 1) 33 #[.slice A0 (towerUp false k).1.length c0, .slice A1 (towerUp false k).2.1.length c1, .slice A2 (towerUp false k).2.2.length c2] := Box.below (hB5.alloc _) hb2 (by omega)
            have Q0 : w2.cell? ⟨w.heap.size + 1, 0, none⟩ = some (.slice A0 (towerUp false k).1.length c0) := B5b.cell 0
            have Q1 : w2.cell? ⟨w.heap.size + 1, 1, none⟩ = some (.slice A1 (towerUp false k).2.1.length c1) := B5b.cell 1
            have Q2 : w2.cell? ⟨w.heap.size + 1, 2, none⟩ = some (.slice A2 (towerUp false k).2.2.length c2) := B5b.cell 2
            have F0 := B5b.hot 0
            have F1 := B5b.hot 1
            have F2 := B5b.hot 2
            have hs2 := hb2.size
            have hbw : Below w.heap.size w w2 := below_then hb2 (by omega) (hbr.trans (hbv.mono (by omega)))
            have ch := Chg.set3 w2 (w.heap.size + 1) (.slice C0 (addV (towerUp false k) (tow false k) (k : Int) (tnx k)).1.length d0) (.slice C1 (addV (towerUp false k) (tow false k) (k : Int) (tnx k)).2.1.length d1) (.slice C2 (addV (towerUp false k) (tow false k) (k : Int) (tnx k)).2.2.length d2)
            clear hv hbv
            go_wp2
            refine ⟨⟨k + 1, _, _, _, by omega, rfl, hbw.trans (ch.below (by omega) (fun x hx => by omega)), ?_, B2b.far3 (by omega) _ _ _, B5b.set3 _ _ _, ?_⟩, ?_⟩
            · have := ch.size
              omega
            · rw [towerUp_succ]
              exact ho2.chg ch (fun x hx => by omega)
            · simp [intOf]
              omega
          · have e1 : IntKind.i64.wrap ((k : Int) + 1) = (k : Int) + 1 := IntWalk.i64_in _ (by omega)
            have e2 : IntKind.i64.wrap (1 - (k : Int) % 2) = 1 - (k : Int) % 2 := IntWalk.i64_in _ (by omega)
            have hz : (0 : Int) < (k : Int) := by omega
            have e3 : IntKind.i64.wrap ((k : Int) - 1) = (k : Int) - 1 := IntWalk.i64_in _ (by omega)
            have hv : OI 2 ((wr.alloc (.cells #[.int .i64 (k : Int)] 2)).alloc (.cells #[.int .i64 ((k : Int) - 1), .int .i64 (k : Int)] 2)) wr.heap.size (.slice (some ⟨wr.heap.size + 1, 0, none⟩) 2 2) (tnx k) := by rw [tnx_s hk0]; exact OI.lit2' (by simp) (by simp)
            have hbv : Below wr.heap.size wr ((wr.alloc (.cells #[.int .i64 (k : Int)] 2)).alloc (.cells #[.int .i64 ((k : Int) - 1), .int .i64 (k : Int)] 2)) := below_alloc (Nat.le_refl _) (below_alloc (Nat.le_refl _) (Below.refl _ _))
            have hzs : wr.heap.size ≤ ((wr.alloc (.cells #[.int .i64 (k : Int)] 2)).alloc (.cells #[.int .i64 ((k : Int) - 1), .int .i64 (k : Int)] 2)).heap.size := hbv.size
            have q0 : wr.cell? ⟨w.heap.size + 1, 0, none⟩ = some (.slice A0 (towerUp false k).1.length c0) := hB5.cell 0
            have r0 : ∀ o, (wr.alloc o).cell? ⟨w.heap.size + 1, 0, none⟩ = some (.slice A0 (towerUp false k).1.length c0) := fun o => keepA q0
            have t0 : ∀ o o', ((wr.alloc o).alloc o').cell? ⟨w.heap.size + 1, 0, none⟩ = some (.slice A0 (towerUp false k).1.length c0) := fun o o' => keepA (keepA q0)
            have q1 : wr.cell? ⟨w.heap.size + 1, 1, none⟩ = some (.slice A1 (towerUp false k).2.1.length c1) := hB5.cell 1
            have r1 : ∀ o, (wr.alloc o).cell? ⟨w.heap.size + 1, 1, none⟩ = some (.slice A1 (towerUp false k).2.1.length c1) := fun o => keepA q1
            have t1 : ∀ o o', ((wr.alloc o).alloc o').cell? ⟨w.heap.size + 1, 1, none⟩ = some (.slice A1 (towerUp false k).2.1.length c1) := fun o o' => keepA (keepA q1)
            have q2 : wr.cell? ⟨w.heap.size + 1, 2, none⟩ = some (.slice A2 (towerUp false k).2.2.length c2) := hB5.cell 2
            have r2 : ∀ o, (wr.alloc o).cell? ⟨w.heap.size + 1, 2, none⟩ = some (.slice A2 (towerUp false k).2.2.length c2) := fun o => keepA q2
            have t2 : ∀ o o', ((wr.alloc o).alloc o').cell? ⟨w.heap.size + 1, 2, none⟩ = some (.slice A2 (towerUp false k).2.2.length c2) := fun o o' => keepA (keepA q2)
            clear hk0
            go_wp2_with fail
            refine (withVertex _ _ _ _ (towerUp false k) (tow false k) (k : Int) (tnx k) wr _ (w.heap.size + 2) hsz hop hbv hv (towerUp_small (by omega))).mono ?_; rintro e w2 ⟨t0, t1, t2, rfl, ho2, hb2⟩
            obtain ⟨C0, d0, C1, d1, C2, d2, rfl, rfl, rfl⟩ := ho2.form
            have B2b : Box w2 w.heap.size 33 #[.slice none 0 0, .slice none 0 0, .slice none 0 0] := Box.below ((hB2.alloc _).alloc _) hb2 (by omega)
            have B5b : Box w2 (w.heap.size + 1) 33 #[.slice A0 (towerUp false k).1.length c0, .slice A1 (towerUp false k).2.1.length c1, .slice A2 (towerUp false k).2.2.length c2] := Box.below ((hB5.alloc _).alloc _) hb2 (by omega)
            have Q0 : w2.cell? ⟨w.heap.size + 1, 0, none⟩ = some (.slice A0 (towerUp false k).1.length c0) := B5b.cell 0
            have Q1 : w2.cell? ⟨w.heap.size + 1, 1, none⟩ = some (.slice A1 (towerUp false k).2.1.length c1) := B5b.cell 1
            have Q2 : w2.cell? ⟨w.heap.size + 1, 2, none⟩ = some (.slice A2 (towerUp false k).2.2.length c2) := B5b.cell 2
            have F0 := B5b.hot 0
            have F1 := B5b.hot 1
            have F2 := B5b.hot 2
            have hs2 := hb2.size
            have hbw : Below w.heap.size w w2 := below_then hb2 (by omega) (hbr.trans (hbv.mono (by omega)))
            have ch := Chg.set3 w2 (w.heap.size + 1) (.slice C0 (addV (towerUp false k) (tow false k) (k : Int) (tnx k)).1.length d0) (.slice C1 (addV (towerUp false k) (tow false k) (k : Int) (tnx k)).2.1.length d1) (.slice C2 (addV (towerUp false k) (tow false k) (k : Int) (tnx k)).2.2.length d2)
            clear hv hbv
            go_wp2
            refine ⟨⟨k + 1, _, _, _, by omega, rfl, hbw.trans (ch.below (by omega) (fun x hx => by omega)), ?_, B2b.far3 (by omega) _ _ _, B5b.set3 _ _ _, ?_⟩, ?_⟩
            · have := ch.size
              omega
            · rw [towerUp_succ]
              exact ho2.chg ch (fun x hx => by omega)
            · simp [intOf]
              omega
        · by_cases hk0 : k = 0
          · have e1 : IntKind.i64.wrap ((k : Int) + 1) = (k : Int) + 1 := IntWalk.i64_in _ (by omega)
            have e2 : IntKind.i64.wrap (1 - (k : Int) % 2) = 1 - (k : Int) % 2 := IntWalk.i64_in _ (by omega)
            have hz : ¬ (0 : Int) < (k : Int) := by omega
            have hv : OI 2 (wr.alloc (.cells #[.int .i64 (k : Int)] 2)) wr.heap.size (.slice (some ⟨wr.heap.size, 0, none⟩) 1 1) (tnx k) := by rw [tnx_z hk0]; exact OI.lit1' rfl (Nat.le_refl _)
            have hbv : Below wr.heap.size wr (wr.alloc (.cells #[.int .i64 (k : Int)] 2)) := below_alloc (Nat.le_refl _) (Below.refl _ _)
            have hzs : wr.heap.size ≤ (wr.alloc (.cells #[.int .i64 (k : Int)] 2)).heap.size := hbv.size
            have q0 : wr.cell? ⟨w.heap.size + 1, 0, none⟩ = some (.slice A0 (towerUp true k).1.length c0) := hB5.cell 0
            have r0 : ∀ o, (wr.alloc o).cell? ⟨w.heap.size + 1, 0, none⟩ = some (.slice A0 (towerUp true k).1.length c0) := fun o => keepA q0
            have t0 : ∀ o o', ((wr.alloc o).alloc o').cell? ⟨w.heap.size + 1, 0, none⟩ = some (.slice A0 (towerUp true k).1.length c0) := fun o o' => keepA (keepA q0)
            have q1 : wr.cell? ⟨w.heap.size + 1, 1, none⟩ = some (.slice A1 (towerUp true k).2.1.length c1) := hB5.cell 1
            have r1 : ∀ o, (wr.alloc o).cell? ⟨w.heap.size + 1, 1, none⟩ = some (.slice A1 (towerUp true k).2.1.length c1) := fun o => keepA q1
            have t1 : ∀ o o', ((wr.alloc o).alloc o').cell? ⟨w.heap.size + 1, 1, none⟩ = some (.slice A1 (towerUp true k).2.1.length c1) := fun o o' => keepA (keepA q1)
            have q2 : wr.cell? ⟨w.heap.size + 1, 2, none⟩ = some (.slice A2 (towerUp true k).2.2.length c2) := hB5.cell 2
            have r2 : ∀ o, (wr.alloc o).cell? ⟨w.heap.size + 1, 2, none⟩ = some (.slice A2 (towerUp true k).2.2.length c2) := fun o => keepA q2
            have t2 : ∀ o o', ((wr.alloc o).alloc o').cell? ⟨w.heap.size + 1, 2, none⟩ = some (.slice A2 (towerUp true k).2.2.length c2) := fun o o' => keepA (keepA q2)
            clear hk0
            go_wp2_with fail
            refine (withVertex _ _ _ _ (towerUp true k) (tow true k) (k : Int) (tnx k) wr _ (w.heap.size + 2) hsz hop hbv hv (towerUp_small (by omega))).mono ?_; rintro e w2 ⟨t0, t1, t2, rfl, ho2, hb2⟩
            obtain ⟨C0, d0, C1, d1, C2, d2, rfl, rfl, rfl⟩ := ho2.form
            have B2b : Box w2 w.heap.size 33 #[.slice none 0 0, .slice none 0 0, .slice none 0 0] := Box.below (hB2.alloc _) hb2 (by omega)
            have B5b : Box w2 (w.heap.size + 1) 33 #[.slice A0 (towerUp true k).1.length c0, .slice A1 (towerUp true k).2.1.length c1, .slice A2 (towerUp true k).2.2.length c2] := Box.below (hB5.alloc _) hb2 (by omega)
            have Q0 : w2.cell? ⟨w.heap.size + 1, 0, none⟩ = some (.slice A0 (towerUp true k).1.length c0) := B5b.cell 0
            have Q1 : w2.cell? ⟨w.heap.size + 1, 1, none⟩ = some (.slice A1 (towerUp true k).2.1.length c1) := B5b.cell 1
            have Q2 : w2.cell? ⟨w.heap.size + 1, 2, none⟩ = some (.slice A2 (towerUp true k).2.2.length c2) := B5b.cell 2
            have F0 := B5b.hot 0
            have F1 := B5b.hot 1
            have F2 := B5b.hot 2
            have hs2 := hb2.size
            have hbw : Below w.heap.size w w2 := below_then hb2 (by omega) (hbr.trans (hbv.mono (by omega)))
            have ch := Chg.set3 w2 (w.heap.size + 1) (.slice C0 (addV (towerUp true k) (tow true k) (k : Int) (tnx k)).1.length d0) (.slice C1 (addV (towerUp true k) (tow true k) (k : Int) (tnx k)).2.1.length d1) (.slice C2 (addV (towerUp true k) (tow true k) (k : Int) (tnx k)).2.2.length d2)
            clear hv hbv
            go_wp2
            refine ⟨⟨k + 1, _, _, _, by omega, rfl, hbw.trans (ch.below (by omega) (fun x hx => by omega)), ?_, B2b.far3 (by omega) _ _ _, B5b.set3 _ _ _, ?_⟩, ?_⟩
            · have := ch.size
              omega
            · rw [towerUp_succ]
              exact ho2.chg ch (fun x hx => by omega)
            · simp [intOf]
              omega
          · have e1 : IntKind.i64.wrap ((k : Int) + 1) = (k : Int) + 1 := IntWalk.i64_in _ (by omega)
            have e2 : IntKind.i64.wrap (1 - (k : Int) % 2) = 1 - (k : Int) % 2 := IntWalk.i64_in _ (by omega)
            have hz : (0 : Int) < (k : Int) := by omega
            have e3 : IntKind.i64.wrap ((k : Int) - 1) = (k : Int) - 1 := IntWalk.i64_in _ (by omega)
            have hv : OI 2 ((wr.alloc (.cells #[.int .i64 (k : Int)] 2)).alloc (.cells #[.int .i64 ((k : Int) - 1), .int .i64 (k : Int)] 2)) wr.heap.size (.slice (some ⟨wr.heap.size + 1, 0, none⟩) 2 2) (tnx k) := by rw [tnx_s hk0]; exact OI.lit2' (by simp) (by simp)
            have hbv : Below wr.heap.size wr ((wr.alloc (.cells #[.int .i64 (k : Int)] 2)).alloc (.cells #[.int .i64 ((k : Int) - 1), .int .i64 (k : Int)] 2)) := below_alloc (Nat.le_refl _) (below_alloc (Nat.le_refl _) (Below.refl _ _))
            have hzs : wr.heap.size ≤ ((wr.alloc (.cells #[.int .i64 (k : Int)] 2)).alloc (.cells #[.int .i64 ((k : Int) - 1), .int .i64 (k : Int)] 2)).heap.size := hbv.size
            have q0 : wr.cell? ⟨w.heap.size + 1, 0, none⟩ = some (.slice A0 (towerUp true k).1.length c0) := hB5.cell 0
            have r0 : ∀ o, (wr.alloc o).cell? ⟨w.heap.size + 1, 0, none⟩ = some (.slice A0 (towerUp true k).1.length c0) := fun o => keepA q0
            have t0 : ∀ o o', ((wr.alloc o).alloc o').cell? ⟨w.heap.size + 1, 0, none⟩ = some (.slice A0 (towerUp true k).1.length c0) := fun o o' => keepA (keepA q0)
            have q1 : wr.cell? ⟨w.heap.size + 1, 1, none⟩ = some (.slice A1 (towerUp true k).2.1.length c1) := hB5.cell 1
            have r1 : ∀ o, (wr.alloc o).cell? ⟨w.heap.size + 1, 1, none⟩ = some (.slice A1 (towerUp true k).2.1.length c1) := fun o => keepA q1
            have t1 : ∀ o o', ((wr.alloc o).alloc o').cell? ⟨w.heap.size + 1, 1, none⟩ = some (.slice A1 (towerUp true k).2.1.length c1) := fun o o' => keepA (keepA q1)
            have q2 : wr.cell? ⟨w.heap.size + 1, 2, none⟩ = some (.slice A2 (towerUp true k).2.2.length c2) := hB5.cell 2
            have r2 : ∀ o, (wr.alloc o).cell? ⟨w.heap.size + 1, 2, none⟩ = some (.slice A2 (towerUp true k).2.2.length c2) := fun o => keepA q2
            have t2 : ∀ o o', ((wr.alloc o).alloc o').cell? ⟨w.heap.size + 1, 2, none⟩ = some (.slice A2 (towerUp true k).2.2.length c2) := fun o o' => keepA (keepA q2)
            clear hk0
            go_wp2_with fail
            refine (withVertex _ _ _ _ (towerUp true k) (tow true k) (k : Int) (tnx k) wr _ (w.heap.size + 2) hsz hop hbv hv (towerUp_small (by omega))).mono ?_; rintro e w2 ⟨t0, t1, t2, rfl, ho2, hb2⟩
            obtain ⟨C0, d0, C1, d1, C2, d2, rfl, rfl, rfl⟩ := ho2.form
            have B2b : Box w2 w.heap.size 33 #[.slice none 0 0, .slice none 0 0, .slice none 0 0] := Box.below ((hB2.alloc _).alloc _) hb2 (by omega)
            have B5b : Box w2 (w.heap.size + 1) 33 #[.slice A0 (towerUp true k).1.length c0, .slice A1 (towerUp true k).2.1.length c1, .slice A2 (towerUp true k).2.2.length c2] := Box.below ((hB5.alloc _).alloc _) hb2 (by omega)
            have Q0 : w2.cell? ⟨w.heap.size + 1, 0, none⟩ = some (.slice A0 (towerUp true k).1.length c0) := B5b.cell 0
            have Q1 : w2.cell? ⟨w.heap.size + 1, 1, none⟩ = some (.slice A1 (towerUp true k).2.1.length c1) := B5b.cell 1
            have Q2 : w2.cell? ⟨w.heap.size + 1, 2, none⟩ = some (.slice A2 (towerUp true k).2.2.length c2) := B5b.cell 2
            have F0 := B5b.hot 0
            have F1 := B5b.hot 1
            have F2 := B5b.hot 2
            have hs2 := hb2.size
            have hbw : Below w.heap.size w w2 := below_then hb2 (by omega) (hbr.trans (hbv.mono (by omega)))
            have ch := Chg.set3 w2 (w.heap.size + 1) (.slice C0 (addV (towerUp true k) (tow true k) (k : Int) (tnx k)).1.length d0) (.slice C1 (addV (towerUp true k) (tow true k) (k : Int) (tnx k)).2.1.length d1) (.slice C2 (addV (towerUp true k) (tow true k) (k : Int) (tnx k)).2.2.length d2)
            clear hv hbv
            go_wp2
            refine ⟨⟨k + 1, _, _, _, by omega, rfl, hbw.trans (ch.below (by omega) (fun x hx => by omega)), ?_, B2b.far3 (by omega) _ _ _, B5b.set3 _ _ _, ?_⟩, ?_⟩
            · have := ch.size
              omega
            · rw [towerUp_succ]
              exact ho2.chg ch (fun x hx => by omega)
            · simp [intOf]
              omega
      · obtain rfl : k = N := by omega
        have hx1 : w.heap.size + 1 < wr.heap.size := by omega
        have F0 := hB2.hot 0
        have P0 : wr.cell? ⟨w.heap.size, 0, none⟩ = some (.slice none 0 0) := hB2.cell 0
        have G0 : wr.cell? ⟨w.heap.size + 1, 0, none⟩ = some (.slice A0 (towerUp kept k).1.length c0) := hB5.cell 0
        have F1 := hB2.hot 1
        have P1 : wr.cell? ⟨w.heap.size, 1, none⟩ = some (.slice none 0 0) := hB2.cell 1
        have G1 : wr.cell? ⟨w.heap.size + 1, 1, none⟩ = some (.slice A1 (towerUp kept k).2.1.length c1) := hB5.cell 1
        have F2 := hB2.hot 2
        have P2 : wr.cell? ⟨w.heap.size, 2, none⟩ = some (.slice none 0 0) := hB2.cell 2
        have G2 : wr.cell? ⟨w.heap.size + 1, 2, none⟩ = some (.slice A2 (towerUp kept k).2.2.length c2) := hB5.cell 2
        go_wp2
        have ch := Chg.set3 wr w.heap.size (.slice A0 (towerUp kept k).1.length c0) (.slice A1 (towerUp kept k).2.1.length c1) (.slice A2 (towerUp kept k).2.2.length c2)
        have bx := hB2.set3 (.slice A0 (towerUp kept k).1.length c0) (.slice A1 (towerUp kept k).2.1.length c1) (.slice A2 (towerUp kept k).2.2.length c2)
        have R0 := bx.cell 0
        have R1 := bx.cell 1
        have R2 := bx.cell 2
        simp only [List.getElem?_toArray, List.getElem?_cons_zero, List.getElem?_cons_succ] at R0 R1 R2
        refine bodyPost_ret (v := .tuple #[.agg #[.slice A0 (towerUp kept k).1.length c0, .slice A1 (towerUp kept k).2.1.length c1, .slice A2 (towerUp kept k).2.2.length c2], .bool true]) (by simp [results, Try.results38, go_sem, R0, R1, R2]) rfl ⟨_, _, _, by rw [hE.out], ?_, ?_⟩
        · rw [towerP_yes hE.out]
          exact (hop.chg ch (fun x hx => by omega)).more (by omega)
        · exact (hbr.trans (ch.below (by omega) (fun x hx => by omega))).mono hB
  · replace h1 : okTower n = false := by simpa using h1
    have hE := Lib.hid h1
    have h2 := of_decide_eq_false h1
    clear h1
    by_cases h3 : n < 1
    · clear h2
      go_enter Try.func38, Try.ntmps38
      go_wp2
      have bx := (Box.new w 33 #[.slice none 0 0, .slice none 0 0, .slice none 0 0]).set3 (.slice none 0 0) (.slice none 0 0) (.slice none 0 0)
      have R0 := bx.cell 0
      have R1 := bx.cell 1
      have R2 := bx.cell 2
      simp only [List.getElem?_toArray, List.getElem?_cons_zero, List.getElem?_cons_succ] at R0 R1 R2
      refine bodyPost_ret (v := .tuple #[.agg #[.slice none 0 0, .slice none 0 0, .slice none 0 0], .bool false]) (by simp [results, Try.results38, go_sem, R0, R1, R2]) rfl ⟨_, _, _, by rw [hE.out], ?_, ?_⟩
      · rw [towerP_no hE.out]
        exact OPar.nil _ _
      · exact below_alloc hB (Below.refl _ _)
    · have h4 : 41 < n := by omega
      have h5 : 1 ≤ n := by omega
      clear h2 h3
      go_enter Try.func38, Try.ntmps38
      go_wp2
      have bx := (Box.new w 33 #[.slice none 0 0, .slice none 0 0, .slice none 0 0]).set3 (.slice none 0 0) (.slice none 0 0) (.slice none 0 0)
      have R0 := bx.cell 0
      have R1 := bx.cell 1
      have R2 := bx.cell 2
      simp only [List.getElem?_toArray, List.getElem?_cons_zero, List.getElem?_cons_succ] at R0 R1 R2
      refine bodyPost_ret (v := .tuple #[.agg #[.slice none 0 0, .slice none 0 0, .slice none 0 0], .bool false]) (by simp [results, Try.results38, go_sem, R0, R1, R2]) rfl ⟨_, _, _, by rw [hE.out], ?_, ?_⟩
      · rw [towerP_no hE.out]
        exact OPar.nil _ _
      · exact below_alloc hB (Below.refl _ _)
end Go.Proofs.Ytlmhhnplacejkaa
