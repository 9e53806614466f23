/- RingGame, spec and impl. RingGame, impl. -/
import Derived.Test.YtlmhhnplacejkaaMore
import Derived.Test.YtlmhhnplacejkaaUse
import Derived.Test.YtlmhhnplacejkaaFn3
import Derived.Deep.RegionWith
namespace Go.Proofs.Ytlmhhnplacejkaa
open Go.RowKit

/-- the ring's first k vertices -/
def ringUp (ps : List Int) (k : Nat) : ParD := ((List.range k).map (fun (v : Nat) => (v : Int) % 2), (List.range k).map (fun (v : Nat) => [((v : Int) + 1) % (ps.length : Int)]), ps.take k)
theorem ringUp_succ {ps : List Int} {k : Nat} (h : k < ps.length) : ringUp ps (k + 1) = addV (ringUp ps k) ((k : Int) % 2) (gi ps k) [((k : Int) + 1) % (ps.length : Int)] := by
  unfold ringUp addV
  rw [List.range_succ, List.map_append, List.map_append, take_gi h]
  rfl
theorem ringUp_small {ps : List Int} {k : Nat} (h : k ≤ 256) : small (ringUp ps k) := by
  unfold small ringUp
  simp
  omega
def okRing (ps : List Int) : Bool := decide (1 ≤ ps.length ∧ ps.length ≤ 256 ∧ ∀ p ∈ ps, 0 ≤ p ∧ p ≤ 40)
def ringP (ps : List Int) : ParD := if okRing ps = true then ringUp ps ps.length else ([], [], [])
theorem ring_len {ps : List Int} {n : Nat} (hl : ps.length = n) (h : ¬ (1 ≤ n ∧ n ≤ 256)) : okRing ps = false := decide_eq_false fun ⟨a, b, _⟩ => h ⟨by omega, by omega⟩
theorem ring_bad {ps : List Int} {n k : Nat} (hl : ps.length = n) (hk : k < n) (h : ¬ (0 ≤ gi ps k ∧ gi ps k ≤ 40)) : okRing ps = false := decide_eq_false fun ⟨_, _, c⟩ => h (c _ (gi_mem (by omega)))
theorem ring_ok {ps : List Int} {n : Nat} (hl : ps.length = n) (hn : 1 ≤ n ∧ n ≤ 256) (h : ∀ k, k < n → 0 ≤ gi ps k ∧ gi ps k ≤ 40) : okRing ps = true := decide_eq_true ⟨by omega, by omega, fun p hp => by
  obtain ⟨i, hi, rfl⟩ := mem_gi hp
  exact h i (by omega)⟩
theorem ringP_no {ps : List Int} (h : okRing ps = false) : ringP ps = ([], [], []) := by unfold ringP; rw [h]; rfl
theorem ringP_yes {ps : List Int} (h : okRing ps = true) : ringP ps = ringUp ps ps.length := by unfold ringP; rw [if_pos h]

theorem ring_tot (ps : List Int) : (ptot (ringP ps) : Int) ≤ 1048576 := by
  unfold ringP
  split
  · rename_i h
    obtain ⟨_, h, _⟩ := of_decide_eq_true h
    unfold ringUp ptot artot
    have := tot_ones (fun v => [((v : Int) + 1) % (ps.length : Int)]) ps.length 1 (fun _ => Nat.le_refl _)
    simp
    omega
  · simp [ptot, artot, tot]
end Go.Proofs.Ytlmhhnplacejkaa
namespace Go.Proofs.Ytlmhhnplacejkaa
open Go.RowKit

set_option maxHeartbeats 1600000 in
theorem implRing (A : Option Addr) (n c : Nat) (ps : List Int) (w : World) (B : Nat) (hB : B ≤ w.heap.size) (ha : RI w A n c ps) :
    Calls Try.prog 39 #[.slice A n c] w fun e w' => ∃ s0 s1 s2, e = .returned (.tuple #[.agg #[s0, s1, s2], .bool (okRing ps)]) ∧ OPar w' B s0 s1 s2 (ringP ps) ∧ Below B w w' := by
  have b1 := ha.cap; have b2 := ha.top
  by_cases hn1 : 1 ≤ n ∧ n ≤ 256
  · have hn1a : (1 : Int) ≤ (n : Int) := by omega
    have hn1b : (n : Int) ≤ 256 := by omega
    go_enter Try.func39, Try.ntmps39
    go_wp2
    go_loopw [20] (fun i wr => ∃ (k : Nat) (s0 s1 s2 : Value), k ≤ n ∧ i = .int .i64 k ∧ (∀ j, j < k → 0 ≤ gi ps j ∧ gi ps j ≤ 40) ∧ Below w.heap.size w wr ∧ w.heap.size + 2 ≤ wr.heap.size ∧
        Box wr w.heap.size 33 #[.slice none 0 0, .slice none 0 0, .slice none 0 0] ∧ Box wr (w.heap.size + 1) 33 #[s0, s1, s2] ∧ OPar wr (w.heap.size + 2) s0 s1 s2 (ringUp ps k)) (fun i _ => n - (intOf i).toNat)
    case atStart => exact ⟨0, _, _, _, Nat.zero_le _, rfl, by omega, below_alloc (Nat.le_refl _) (below_alloc (Nat.le_refl _) (Below.refl _ _)), by simp, (Box.new _ _ _).alloc _, Box.new' (by simp), OPar.nil _ _⟩
    case round =>
      obtain ⟨k, s0, s1, s2, hk, rfl, hall, hbr, hsz, hB2, hB5, hop⟩ := hrel
      have HA := Lib.hid hall
      clear hall
      by_cases hlt : k < n
      · obtain ⟨b, off, rfl, hc⟩ := (ha.keep (keeps_below hbr)).at_ hlt
        by_cases h2' : 0 ≤ gi ps k ∧ gi ps k ≤ 40
        · have h2a : 0 ≤ gi ps k := h2'.1
          have h2b : gi ps k ≤ 40 := h2'.2
          obtain ⟨A0, c0, A1, c1, A2, c2, rfl, rfl, rfl⟩ := hop.form
          have q0 := hB5.cell 0
          have q1 := hB5.cell 1
          have q2 := hB5.cell 2
          simp only [List.getElem?_toArray, List.getElem?_cons_zero, List.getElem?_cons_succ] at q0 q1 q2
          have hx0 : w.heap.size < wr.heap.size := by omega
          have hx1 : w.heap.size + 1 < wr.heap.size := by omega
          have hx2 : b < w.heap.size := by
            obtain ⟨b', off', e', hc'⟩ := ha.at_ hlt
            injection e' with e'
            injection e' with e2 e3
            subst e2
            simpa using World.block_lt_of_cell? w _ hc'
          have hx3 : ¬ w.heap.size + 1 = b := by omega
          have hki : (k : Int) < (n : Int) := by omega
          have hk0 : (0 : Int) ≤ (k : Int) := by omega
          have hn0 : (1 : Int) ≤ (n : Int) := by omega
          have hn2 : (n : Int) ≤ 256 := by omega
          have e1 : IntKind.i64.wrap ((k : Int) + 1) = (k : Int) + 1 := IntWalk.i64_in _ (by omega)
          go_wp2
          have hx4 : b < wr.heap.size := by omega
          have hnz : ¬ n = 0 := by omega
          have hA3 : ∀ o, ((wr.drew).alloc o).cell? ⟨b, off + k, none⟩ = some (.int .i64 (gi ps k)) := fun o => keepA (keepD hc)
          have hA0 : ∀ o, ((wr.drew).alloc o).cell? ⟨w.heap.size + 1, 0, none⟩ = some (.slice A0 (ringUp ps k).1.length c0) := fun o => keepA (keepD q0)
          have hA1 : ∀ o, ((wr.drew).alloc o).cell? ⟨w.heap.size + 1, 1, none⟩ = some (.slice A1 (ringUp ps k).2.1.length c1) := fun o => keepA (keepD q1)
          have hA2 : ∀ o, ((wr.drew).alloc o).cell? ⟨w.heap.size + 1, 2, none⟩ = some (.slice A2 (ringUp ps k).2.2.length c2) := fun o => keepA (keepD q2)
          go_region_with (first
            | (go_at_call 103
               refine (withVertex _ _ _ _ _ _ _ _ wr _ (w.heap.size + 2) hsz hop (by repeat (first | with_reducible exact Below.refl _ _ | with_reducible refine Below.drew ?_ | with_reducible refine below_drewN ?_ _ | with_reducible refine below_alloc (Nat.le_refl _) ?_)) (by exact OI.lit1 (Nat.le_refl _)) (ringUp_small (by omega))).mono ?_
               rintro e w2 ⟨t0, t1, t2, rfl, ho2, hb2⟩
               obtain ⟨C0, d0, C1, d1, C2, d2, rfl, rfl, rfl⟩ := ho2.form
               have S2 : w2.cell? ⟨b, off + k, none⟩ = some (.int .i64 (gi ps k)) := (hb2.cell (by show b < _; omega)).trans (by repeat (first | with_reducible assumption | with_reducible refine keepD ?_ | with_reducible refine keepD ?_ | with_reducible refine keepA ?_))
               have B2b : Box w2 w.heap.size 33 #[.slice none 0 0, .slice none 0 0, .slice none 0 0] := Box.below (by repeat (first | with_reducible exact hB2 | with_reducible refine Box.alloc ?_ _ | with_reducible refine Box.drew ?_ | with_reducible refine Box.drewN ?_ _)) hb2 (by omega)
               have B5b := Box.below (w' := w2) (b := w.heap.size + 1) (t := 33) (cs := #[.slice A0 (ringUp ps k).1.length c0, .slice A1 (ringUp ps k).2.1.length c1, .slice A2 (ringUp ps k).2.2.length c2]) (by repeat (first | with_reducible exact hB5 | with_reducible refine Box.alloc ?_ _ | with_reducible refine Box.drew ?_ | with_reducible refine Box.drewN ?_ _)) hb2 (by omega)
               have hsz2 := hb2.size
               have Q0 : w2.cell? ⟨w.heap.size + 1, 0, none⟩ = some (.slice A0 (ringUp ps k).1.length c0) := B5b.cell 0
               have Q1 : w2.cell? ⟨w.heap.size + 1, 1, none⟩ = some (.slice A1 (ringUp ps k).2.1.length c1) := B5b.cell 1
               have Q2 : w2.cell? ⟨w.heap.size + 1, 2, none⟩ = some (.slice A2 (ringUp ps k).2.2.length c2) := B5b.cell 2
               have F0 := B5b.hot 0
               have F1 := B5b.hot 1
               have F2 := B5b.hot 2))
          all_goals
            have ch := Chg.set3 w2 (w.heap.size + 1) (.slice C0 (addV (ringUp ps k) (↑k % 2) (gi ps k) [(↑k + 1) % ↑n]).fst.length d0) (.slice C1 (addV (ringUp ps k) (↑k % 2) (gi ps k) [(↑k + 1) % ↑n]).snd.fst.length d1) (.slice C2 (addV (ringUp ps k) (↑k % 2) (gi ps k) [(↑k + 1) % ↑n]).snd.snd.length d2)
            have hs2 : w.heap.size ≤ w2.heap.size := by have := hb2.size; simp at this; omega
            have hbw : Below w.heap.size w w2 := Below.trans (by repeat (first | with_reducible exact hbr | with_reducible refine Below.drew ?_ | with_reducible refine below_drewN ?_ _ | with_reducible refine below_alloc (by omega) ?_)) (hb2.mono (by omega))
            go_wp2
            refine ⟨⟨k + 1, _, _, _, by omega, rfl, fun j hj => ?_, hbw.trans (ch.below hs2 (fun x hx => by omega)), ?_, B2b.far3 (by omega) _ _ _, B5b.set3 _ _ _, ?_⟩, ?_⟩
            · by_cases e : j = k
              · subst e; exact h2'
              · exact HA.out j (by omega)
            · have := ch.size
              have := hb2.size
              simp at this
              omega
            · rw [ringUp_succ (by rw [ha.len]; exact hlt), ha.len]
              exact ho2.chg ch (fun x hx => by omega)
            · simp [intOf]
              omega
        · have E := Lib.hid (ring_bad ha.len hlt h2')
          have F0 := hB2.hot 0
          have F1 := hB2.hot 1
          have F2 := hB2.hot 2
          have P0 := hB2.cell 0
          have P1 := hB2.cell 1
          have P2 := hB2.cell 2
          simp only [List.getElem?_toArray, List.getElem?_cons_zero, List.getElem?_cons_succ] at P0 P1 P2
          have hsz0 : w.heap.size ≤ wr.heap.size := by omega
          by_cases h2a : gi ps k < 0
          · clear h2'
            go_wp2
            have ch := Chg.set3 wr w.heap.size (.slice none 0 0) (.slice none 0 0) (.slice none 0 0)
            have bx := hB2.set3 (.slice none 0 0) (.slice none 0 0) (.slice none 0 0)
            have R0 := bx.cell 0
            have R1 := bx.cell 1
            have R2 := bx.cell 2
            simp only [List.getElem?_toArray, List.getElem?_cons_zero, List.getElem?_cons_succ] at R0 R1 R2
            refine bodyPost_ret (v := .tuple #[.agg #[.slice none 0 0, .slice none 0 0, .slice none 0 0], .bool false]) (by simp [results, Try.results39, go_sem, R0, R1, R2]) rfl ⟨_, _, _, by rw [E.out], ?_, ?_⟩
            · rw [ringP_no E.out]
              exact OPar.nil _ _
            · exact (hbr.trans (ch.below (by omega) (fun x hx => by omega))).mono hB
          · have h2b : 40 < gi ps k := by omega
            have h2c : 0 ≤ gi ps k := by omega
            clear h2'
            go_wp2
            have ch := Chg.set3 wr w.heap.size (.slice none 0 0) (.slice none 0 0) (.slice none 0 0)
            have bx := hB2.set3 (.slice none 0 0) (.slice none 0 0) (.slice none 0 0)
            have R0 := bx.cell 0
            have R1 := bx.cell 1
            have R2 := bx.cell 2
            simp only [List.getElem?_toArray, List.getElem?_cons_zero, List.getElem?_cons_succ] at R0 R1 R2
            refine bodyPost_ret (v := .tuple #[.agg #[.slice none 0 0, .slice none 0 0, .slice none 0 0], .bool false]) (by simp [results, Try.results39, go_sem, R0, R1, R2]) rfl ⟨_, _, _, by rw [E.out], ?_, ?_⟩
            · rw [ringP_no E.out]
              exact OPar.nil _ _
            · exact (hbr.trans (ch.below (by omega) (fun x hx => by omega))).mono hB
      · have F0 := hB2.hot 0
        have F1 := hB2.hot 1
        have F2 := hB2.hot 2
        have G0 := hB5.cell 0
        have G1 := hB5.cell 1
        have G2 := hB5.cell 2
        have P0 := hB2.cell 0
        have P1 := hB2.cell 1
        have P2 := hB2.cell 2
        simp only [List.getElem?_toArray, List.getElem?_cons_zero, List.getElem?_cons_succ] at G0 G1 G2 P0 P1 P2
        obtain rfl : k = n := by omega
        have E := Lib.hid (ring_ok ha.len hn1 HA.out)
        obtain ⟨A0, c0, A1, c1, A2, c2, rfl, rfl, rfl⟩ := hop.form
        go_wp2
        have ch := Chg.set3 wr w.heap.size (.slice A0 (ringUp ps k).1.length c0) (.slice A1 (ringUp ps k).2.1.length c1) (.slice A2 (ringUp ps k).2.2.length c2)
        have bx := hB2.set3 (.slice A0 (ringUp ps k).1.length c0) (.slice A1 (ringUp ps k).2.1.length c1) (.slice A2 (ringUp ps k).2.2.length c2)
        have R0 := bx.cell 0
        have R1 := bx.cell 1
        have R2 := bx.cell 2
        simp only [List.getElem?_toArray, List.getElem?_cons_zero, List.getElem?_cons_succ] at R0 R1 R2
        refine bodyPost_ret (v := .tuple #[.agg #[.slice A0 (ringUp ps k).1.length c0, .slice A1 (ringUp ps k).2.1.length c1, .slice A2 (ringUp ps k).2.2.length c2], .bool true]) (by simp [results, Try.results39, go_sem, R0, R1, R2]) rfl ⟨_, _, _, by rw [E.out], ?_, ?_⟩
        · rw [ringP_yes E.out, ha.len]
          exact (hop.chg ch (fun x hx => by omega)).more (by omega)
        · exact (hbr.trans (ch.below (by omega) (fun x hx => by omega))).mono hB
  · have E := Lib.hid (ring_len ha.len hn1)
    by_cases h1 : n < 1
    · have h1a : (n : Int) < 1 := by omega
      clear hn1
      go_enter Try.func39, Try.ntmps39
      go_wp2
      have ch := Chg.set3 (w.alloc (.cells #[.slice none 0 0, .slice none 0 0, .slice none 0 0] 33)) w.heap.size (.slice none 0 0) (.slice none 0 0) (.slice none 0 0)
      have bx := (Box.new w 33 #[.slice none 0 0, .slice none 0 0, .slice none 0 0]).set3 (.slice none 0 0) (.slice none 0 0) (.slice none 0 0)
      have R0 := bx.cell 0
      have R1 := bx.cell 1
      have R2 := bx.cell 2
      simp only [List.getElem?_toArray, List.getElem?_cons_zero, List.getElem?_cons_succ] at R0 R1 R2
      refine bodyPost_ret (v := .tuple #[.agg #[.slice none 0 0, .slice none 0 0, .slice none 0 0], .bool false]) (by simp [results, Try.results39, go_sem, R0, R1, R2]) rfl ⟨_, _, _, by rw [E.out], ?_, ?_⟩
      · rw [ringP_no E.out]
        exact OPar.nil _ _
      · exact below_alloc hB (Below.refl _ _)
    · have h1a : (1 : Int) ≤ (n : Int) := by omega
      have h1b : 256 < (n : Int) := by omega
      clear hn1 h1
      go_enter Try.func39, Try.ntmps39
      go_wp2
      have ch := Chg.set3 (w.alloc (.cells #[.slice none 0 0, .slice none 0 0, .slice none 0 0] 33)) w.heap.size (.slice none 0 0) (.slice none 0 0) (.slice none 0 0)
      have bx := (Box.new w 33 #[.slice none 0 0, .slice none 0 0, .slice none 0 0]).set3 (.slice none 0 0) (.slice none 0 0) (.slice none 0 0)
      have R0 := bx.cell 0
      have R1 := bx.cell 1
      have R2 := bx.cell 2
      simp only [List.getElem?_toArray, List.getElem?_cons_zero, List.getElem?_cons_succ] at R0 R1 R2
      refine bodyPost_ret (v := .tuple #[.agg #[.slice none 0 0, .slice none 0 0, .slice none 0 0], .bool false]) (by simp [results, Try.results39, go_sem, R0, R1, R2]) rfl ⟨_, _, _, by rw [E.out], ?_, ?_⟩
      · rw [ringP_no E.out]
        exact OPar.nil _ _
      · exact below_alloc hB (Below.refl _ _)
end Go.Proofs.Ytlmhhnplacejkaa
