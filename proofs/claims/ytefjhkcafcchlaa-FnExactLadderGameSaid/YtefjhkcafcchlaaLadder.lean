/- LadderGame, spec and impl. -/
import Derived.Test.YtefjhkcafcchlaaPut
import Derived.Test.YtefjhkcafcchlaaSort
import Derived.Test.YtefjhkcafcchlaaMore
import Derived.Test.YtefjhkcafcchlaaGame
import Derived.Test.YtefjhkcafcchlaaUse
import Derived.IntWalk
import Derived.Deep.RegionWith
namespace Go.Proofs.Ytefjhkcafcchlaa
open Go.RowKit

/-! ### a list in order, without its repetitions -/
theorem comp_asc {xs : List Int} (h : xs.Pairwise (· ≤ ·)) : (compL xs).Pairwise (· < ·) ∧ ∀ y, y ∈ compL xs ↔ y ∈ xs := by
  have le : ∀ i j, i ≤ j → j < xs.length → xs[i]! ≤ xs[j]! := fun i j h1 h2 => by
    rcases Nat.eq_or_lt_of_le h1 with e | e
    · subst e; exact Int.le_refl _
    · rw [getElem!_pos xs i (by omega), getElem!_pos xs j h2]
      exact List.pairwise_iff_getElem.1 h i j (by omega) h2 e
  have arr : ∀ i, xs.toArray[i]! = xs[i]! := fun i => by
    rcases Nat.lt_or_ge i xs.length with h1 | h1
    · rw [getElem!_pos xs.toArray i (by simpa using h1), getElem!_pos xs i h1, List.getElem_toArray]
    · rw [getElem!_neg xs.toArray i (by simpa using h1), getElem!_neg xs i (by omega)]
  unfold compL Lib.compact Lib.compactUpTo
  constructor
  · rw [List.pairwise_map]
    refine List.Pairwise.imp_of_mem ?_ ((List.pairwise_lt_range (n := xs.length)).filter _)
    intro i j hi hj hij
    rw [List.mem_filter, List.mem_range] at hi hj
    have hk := hj.2
    have hne : xs.toArray[j]! ≠ xs.toArray[j - 1]! := fun e => by
      rw [Lib.keeps_neg (by omega) e] at hk; cases hk
    rw [arr, arr] at hne ⊢
    have h1 := le i (j - 1) (by omega) (by omega)
    have h2 := le (j - 1) j (by omega) hj.1
    omega
  · intro y
    rw [List.mem_map]
    constructor
    · rintro ⟨i, hi, rfl⟩
      rw [List.mem_filter, List.mem_range] at hi
      rw [arr, getElem!_pos xs i hi.1]
      exact List.getElem_mem hi.1
    · intro hy
      obtain ⟨i, hi, e⟩ := List.getElem_of_mem hy
      have key : ∀ i, i < xs.length → xs[i]! = y → ∃ a, a ∈ (List.range xs.length).filter (Lib.keeps xs.toArray) ∧ xs.toArray[a]! = y := by
        intro i
        induction i with
        | zero =>
          intro h1 h2
          refine ⟨0, ?_, by rw [arr]; exact h2⟩
          rw [List.mem_filter, List.mem_range]
          exact ⟨h1, Lib.keeps_lt_one _ 0 (by omega)⟩
        | succ i ih =>
          intro h1 h2
          by_cases e : xs[i]! = y
          · exact ih (by omega) e
          · refine ⟨i + 1, ?_, by rw [arr]; exact h2⟩
            rw [List.mem_filter, List.mem_range]
            exact ⟨h1, Lib.keeps_pos (by rw [arr, arr, h2, Nat.add_sub_cancel]; exact fun c => e c.symm)⟩
      exact key i hi (by rw [getElem!_pos xs i hi]; exact e)
theorem set_put {xs ys : List Int} {x : Int} (hy : ys.Pairwise (· < ·)) (h : ∀ z, z ∈ xs ↔ z = x ∨ z ∈ ys) : compL (sortL xs) = putL ys x := by
  obtain ⟨c1, c2⟩ := comp_asc (sortL_pair xs)
  obtain ⟨p1, p2⟩ := putL_asc (x := x) hy
  refine asc_ext c1 p1 fun z => ?_
  rw [c2, sortL_mem, p2, h]

/-- the ladder's first k vertices -/
def ladNx (m : Int) (k : Nat) : List Int := putL [((k : Int) + 1) % m] (((k : Int) + 2) % m)
def ladUp (m : Int) : Nat → ParD
  | 0 => ([], [], [])
  | k + 1 => addV (ladUp m k) ((k : Int) % 2) ((k : Int) % 4) (ladNx m k)
theorem ladNx_comp (m : Int) (k : Nat) : compL (sortL [((k : Int) + 1) % m, ((k : Int) + 2) % m]) = ladNx m k := by
  refine set_put (by simp) fun z => ?_
  simp
  exact or_comm
theorem ladNx_len (m : Int) (k : Nat) : (ladNx m k).length ≤ 2 := putL_len _ _
theorem ladUp_len (m : Int) (k : Nat) : (ladUp m k).1.length = k ∧ (ladUp m k).2.1.length = k ∧ (ladUp m k).2.2.length = k := by
  induction k with
  | zero => simp [ladUp]
  | succ k ih => rw [ladUp]; unfold addV; simp; omega
theorem ladUp_small {m : Int} {k : Nat} (h : k ≤ 256) : small (ladUp m k) := by
  have := ladUp_len m k
  unfold small
  omega
theorem ladUp_tot (m : Int) (k : Nat) : tot (ladUp m k).2.1 ≤ 2 * k := by
  induction k with
  | zero => simp [ladUp, tot]
  | succ k ih =>
    rw [ladUp]
    unfold addV
    have h1 : tot ((ladUp m k).2.1 ++ [ladNx m k]) = tot (ladUp m k).2.1 + (ladNx m k).length := by
      unfold tot; simp
    have := ladNx_len m k
    show tot ((ladUp m k).2.1 ++ [ladNx m k]) ≤ _
    omega
def okLad (n : Int) : Bool := inR n 1 128
def ladP (n : Int) : ParD := if okLad n = true then ladUp (2 * n) (2 * n).toNat else ([], [], [])
theorem ladP_no {n : Int} (h : okLad n = false) : ladP n = ([], [], []) := by unfold ladP; rw [h]; rfl
theorem ladP_yes {n : Nat} (h : okLad n = true) : ladP n = ladUp (2 * n) (2 * n) := by unfold ladP; rw [if_pos h]; congr 1
theorem lad_tot (n : Int) : (ptot (ladP n) : Int) ≤ 1048576 := by
  unfold ladP
  split
  · rename_i h
    have h' := of_decide_eq_true h
    have h1 := ladUp_len (2 * n) (2 * n).toNat
    have h2 := ladUp_tot (2 * n) (2 * n).toNat
    unfold ptot artot
    omega
  · simp [ptot, artot, tot]

set_option maxRecDepth 100000 in
set_option maxHeartbeats 1600000 in
theorem specLadder (n : Int) (w : World) (B : Nat) (hB : B ≤ w.heap.size) :
    Calls Try.prog 45 #[.int .i64 n] w fun e w' => ∃ s0 s1 s2, e = .returned (.tuple #[.agg #[s0, s1, s2], .bool (okLad n)]) ∧ OPar w' B s0 s1 s2 (ladP n) ∧ Below B w w' := by
  have S0 := GSt.start w
  by_cases h1 : okLad n = true
  · have h1' := of_decide_eq_true h1
    obtain ⟨N, rfl⟩ := Int.eq_ofNat_of_zero_le (show 0 ≤ n by omega)
    have hE := Lib.hid h1
    have hn1 : (1 : Int) ≤ (N : Int) := h1'.1
    have hn2 : (N : Int) ≤ 128 := h1'.2
    have H2 := Lib.hid (show inR (N : Int) 1 128 = true from h1)
    clear h1 h1'
    go_enter Try.func45, Try.ntmps45
    go_wp2_with (go_at_call 94; refine (l1In _ _ _ _).mono ?_; rintro e w' ⟨rfl, q, rfl⟩; rw [H2.out])
    go_loopw [5] (fun i wr => ∃ (k : Nat) (s0 s1 s2 : Value), k ≤ 2 * N ∧ i = .int .i64 k ∧ GSt w wr s0 s1 s2 (ladUp (2 * (N : Int)) k)) (fun i _ => 2 * N - (intOf i).toNat)
    case atStart => exact ⟨0, _, _, _, Nat.zero_le _, rfl, S0.move (below_drewN (Below.refl _ _) _)⟩
    case round =>
      obtain ⟨k, s0, s1, s2, hk, rfl, hst⟩ := hrel
      obtain ⟨A0, c0, A1, c1, A2, c2, rfl, rfl, rfl⟩ := hst.own.form
      have hsz := hst.size
      by_cases hlt : k < 2 * N
      · have hki : (k : Int) < 2 * (N : Int) := by omega
        have hk0 : (0 : Int) ≤ (k : Int) := by omega
        have q0 := hst.c0
        have q1 := hst.c1
        have q2 := hst.c2
        have f1 := hst.blk1
        have hsm := ladUp_small (m := 2 * (N : Int)) (k := k) (by omega)
        have hnz : ¬ 2 * (N : Int) = 0 := by omega
        go_wp2_with fail
        have e1 : IntKind.i64.wrap ((k : Int) + 1) = (k : Int) + 1 := IntWalk.i64_in _ (by omega)
        have e2 : IntKind.i64.wrap ((k : Int) + 2) = (k : Int) + 2 := IntWalk.i64_in _ (by omega)
        have e3 : IntKind.i64.wrap (2 * (N : Int)) = 2 * (N : Int) := IntWalk.i64_in _ (by omega)
        have hA0 : ∀ o, ((wr.drew).alloc o).cell? ⟨w.heap.size + 1, 0, none⟩ = some (.slice A0 (ladUp (2 * (N : Int)) k).1.length c0) := fun o => keepA (keepD q0)
        have hA1 : ∀ o, ((wr.drew).alloc o).cell? ⟨w.heap.size + 1, 1, none⟩ = some (.slice A1 (ladUp (2 * (N : Int)) k).2.1.length c1) := fun o => keepA (keepD q1)
        have hA2 : ∀ o, ((wr.drew).alloc o).cell? ⟨w.heap.size + 1, 2, none⟩ = some (.slice A2 (ladUp (2 * (N : Int)) k).2.2.length c2) := fun o => keepA (keepD q2)
        go_region_with (first
            | (go_at_call 117
               refine (l14Put _ _ _ [((k : Int) + 1) % (2 * (N : Int))] _ _ wr.heap.size (by first | (simp; done) | (simp; omega)) (by exact (OI.lit1 (Nat.le_refl _)).reads) (by omega)).mono ?_
               rintro e wa ⟨va, rfl, hoa, hba⟩
               obtain ⟨Aa, ca, rfl⟩ := hoa.form
               have hra : Below wr.heap.size wr wa := below_then hba (Nat.le_refl _) (by repeat (first | with_reducible assumption | with_reducible exact Below.refl _ _ | with_reducible refine below_drewN ?_ _ | with_reducible refine Below.drew ?_ | with_reducible refine below_alloc (Nat.le_refl _) ?_))
               have sta := hst.move hra
               have qa0 := sta.c0
               have qa1 := sta.c1
               have qa2 := sta.c2
               have fa1 := sta.blk1)
            | (go_at_call 116
               refine (l14More _ _ _ _ (ladUp (2 * (N : Int)) k) ((k : Int) % 2) ((k : Int) % 4) (ladNx (2 * (N : Int)) k) wr _ (w.heap.size + 2) hsz hst.own (by exact hra) (by exact hoa) hsm).mono ?_
               rintro e w2 ⟨t0, t1, t2, rfl, ho2, hb2⟩
               obtain ⟨C0, d0, C1, d1, C2, d2, rfl, rfl, rfl⟩ := ho2.form
               have hb3 := (hra.mono hsz).trans hb2
               have st2 := hst.store hb3 ho2
               obtain ⟨bz, bg, bw, bs⟩ := hst.call hb3
               have Q0 := bg.c0
               have Q1 := bg.c1
               have Q2 := bg.c2
               have F0 := bg.hot 0
               have F1 := bg.hot 1
               have F2 := bg.hot 2))
        all_goals
          go_wp2
          exact ⟨⟨k + 1, _, _, _, by omega, by go_num, st2⟩, by simp [intOf]; omega⟩
      · obtain rfl : k = 2 * N := by omega
        have q0 := hst.c0
        have q1 := hst.c1
        have q2 := hst.c2
        have z0 := hst.z0
        have z1 := hst.z1
        have z2 := hst.z2
        have F0 := hst.hotZ 0
        have F1 := hst.hotZ 1
        have F2 := hst.hotZ 2
        obtain ⟨fo, fb, fx⟩ := hst.fin
        have R0 := fx.c0
        have R1 := fx.c1
        have R2 := fx.c2
        have HF := Lib.hid fo
        clear fo fx
        go_wp2
        refine bodyPost_ret (v := .tuple #[.agg #[.slice A0 (ladUp (2 * (N : Int)) (2 * N)).1.length c0, .slice A1 (ladUp (2 * (N : Int)) (2 * N)).2.1.length c1, .slice A2 (ladUp (2 * (N : Int)) (2 * N)).2.2.length c2], .bool true]) (by simp [results, Try.results45, go_sem, R0, R1, R2]) rfl ⟨_, _, _, by rw [hE.out], ?_, fb.mono hB⟩
        rw [ladP_yes hE.out]
        exact HF.out.more (by omega)
  · replace h1 : okLad n = false := by simpa using h1
    have hE := Lib.hid h1
    have H2 := Lib.hid (show inR n 1 128 = false from h1)
    clear h1
    go_enter Try.func45, Try.ntmps45
    go_wp2_with (go_at_call 94; refine (l1In _ _ _ _).mono ?_; rintro e w' ⟨rfl, q, rfl⟩; rw [H2.out])
    obtain ⟨fb, fx⟩ := (S0.move (below_drewN (Below.refl _ _) q)).fin0
    have R0 := fx.c0
    have R1 := fx.c1
    have R2 := fx.c2
    refine bodyPost_ret (v := .tuple #[.agg #[.slice none 0 0, .slice none 0 0, .slice none 0 0], .bool false]) (by simp [results, Try.results45, go_sem, R0, R1, R2]) rfl ⟨_, _, _, by rw [hE.out], by rw [ladP_no hE.out]; exact OPar.nil _ _, fb.mono hB⟩
end Go.Proofs.Ytefjhkcafcchlaa
