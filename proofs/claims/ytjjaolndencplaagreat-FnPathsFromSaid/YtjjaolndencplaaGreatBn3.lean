/- Texts that the proof reaches: Play, Play3, Open, OpenY, Pairs, Broken, Pairs5, DiceP, Cpy, Two. -/
import Derived.Test.YtjjaolndencplaaGreatBn2
import Derived.ProofKit
import Derived.OpenShut
import Derived.ShutString
import Derived.ChangeOld
import Derived.Lib.SmallJoins
import Derived.Deep.Slices
import Derived.Deep.Fields
import Derived.Deep.RegionHeld3
namespace Go.Proofs.YtjjaolndencplaaGreat
open Go.RowKit

/-- a plan of who; a full one -/
def fineP (o : List Int) (n : List (List Int)) (who : Int) (p : List Int) : Prop := p.length = o.length ∧ ∀ v, v < o.length → gi p v = -1 ∨ (gi o v = who ∧ hasL (gl n v) (gi p v) = true)
def fullP (o : List Int) (n : List (List Int)) (who : Int) (p : List Int) : Prop := p.length = o.length ∧ ∀ v, v < o.length → (gi o v = who → hasL (gl n v) (gi p v) = true) ∧ (¬ gi o v = who → gi p v = -1)
theorem fullP.fine {o : List Int} {n : List (List Int)} {who : Int} {p : List Int} (h : fullP o n who p) : fineP o n who p :=
  ⟨h.1, fun v hv => by
    by_cases e : gi o v = who
    · exact .inr ⟨e, (h.2 v hv).1 e⟩
    · exact .inl ((h.2 v hv).2 e)⟩
theorem row_has {o : List Int} {n : List (List Int)} (hf : fineAr o n) {v : Nat} (hv : v < o.length) {x : Int} (h : hasL (gl n v) x = true) : 0 ≤ x ∧ x < (o.length : Int) := set_mem (hf.2.2.2 v hv).2.2 (hasL_iff.1 h)

set_option maxRecDepth 100000 in
set_option maxHeartbeats 800000 in
theorem l5Plan (A0 A1 C : Option Addr) (n0 c0 n1 c1 m d : Nat) (o : List Int) (n : List (List Int)) (who : Int) (p : List Int) (w : World) (B : Nat) (hB : B ≤ w.heap.size) (ha : RI w A0 n0 c0 o) (hb : RII w A1 n1 c1 n) (hp : RI w C m d p) (hf : fineAr o n) (hfp : fineP o n who p) :
    Calls Tryz.prog 72 #[.agg #[.slice A0 n0 c0, .slice A1 n1 c1], .int .i64 who, .slice C m d] w fun e w' => e = .returned (.bool true) ∧ Below B w w' := by
  have HL := Lib.hid ha.len; have HM := Lib.hid hb.len
  have hn0 : n0 ≤ 256 := by have := hf.2.1; rw [HL.out] at this; omega
  have h01 : n1 = n0 := by rw [← HM.out, hf.2.2.1, HL.out]
  have HF := Lib.hid hf
  have H01 := Lib.hid h01
  have hn1 : n1 ≤ 256 := by omega
  clear h01
  have b1 := ha.cap; have b2 := ha.top; have b3 := hb.cap; have b4 := hb.top
  have hba : Below w.heap.size w (w.alloc (.cells #[.slice A0 n0 c0, .slice A1 n1 c1] 30)) := below_alloc (Nat.le_refl _) (Below.refl _ _)
  have bx := Box.new w 30 #[.slice A0 n0 c0, .slice A1 n1 c1]
  have hpl : m = n0 := by rw [← hp.len, hfp.1, HL.out]
  subst hpl
  have HP := Lib.hid hfp
  have b5 := hp.cap; have b6 := hp.top
  clear hfp
  have q0 := bx.d0
  go_enter Tryz.func72, Tryz.ntmps72
  go_wp2
  clear q0
  go_loopw [7] (fun i wr => ∃ k : Nat, k ≤ m ∧ i = .int .i64 k ∧ Box wr w.heap.size 30 #[.slice A0 m c0, .slice A1 n1 c1] ∧ Below w.heap.size w wr) (fun i _ => m - (intOf i).toNat)
  case atStart => exact ⟨0, Nat.zero_le _, rfl, bx, hba⟩
  case round =>
    clear bx hba
    obtain ⟨k, hk, rfl, bx, hq⟩ := hrel
    have q0 := bx.d0; have q1 := bx.d1
    by_cases hkl : k < m
    · obtain ⟨bp, op, rfl, hcP⟩ := hp.at_ hkl
      obtain ⟨bo, oo, rfl, hcO⟩ := ha.at_ hkl
      obtain ⟨bn, on, An, nn, cn, rfl, hcN, rn⟩ := hb.at_ (show k < n1 by have := H01.out; omega)
      have kO := keeps_below hq _ _ hcO; have kN := keeps_below hq _ _ hcN; have kP := keeps_below hq _ _ hcP
      have hrow := rn.keep (keeps_below hq)
      have hki : (k : Int) < (m : Int) := by omega
      have hki1 : (k : Int) < (n1 : Int) := by have := H01.out; omega
      have hk0 : (0 : Int) ≤ (k : Int) := by omega
      have hcase := HP.out.2 k (by rw [HL.out]; exact hkl)
      by_cases hneg : gi p k = -1
      · have e1 : (gi p k != -1) = false := by simp [hneg]
        clear hneg hcase
        go_wp2_with fail
        refine wp_region_held_drew (S := (fun w' => w'.cell? ⟨w.heap.size, 0, none⟩ = some (.slice (some ⟨bo, oo, none⟩) m c0) ∧ w'.cell? ⟨w.heap.size, 1, none⟩ = some (.slice (some ⟨bn, on, none⟩) n1 c1) ∧ w'.cell? ⟨bo, oo + k, none⟩ = some (.int .i64 (gi o k)) ∧ w'.cell? ⟨bn, on + k, none⟩ = some (.slice An nn cn) ∧ w'.cell? ⟨bp, op + k, none⟩ = some (.int .i64 (gi p k)))) (by kernel_rfl) (⟨q0, q1, kO, kN, kP⟩) (fun hHeld => ?_)
        refine takeH0 (v := ?_) (by kernel_rfl) (by kernel_rfl) (by kernel_rfl) (fun _ _ _ h => h) hHeld (by rfl) ?_ ?_
        rotate_left; · (intro w hSw; (try dsimp only at hSw); go_simp; try with_reducible rfl)
        try simp only [Act.put, List.setIfInBounds_toArray, List.set_cons_zero, List.set_cons_succ]
        refine takeH1 (v := ?_) (by kernel_rfl) (by kernel_rfl) (by kernel_rfl) (fun _ _ _ h => h) hHeld (by rfl) ?_ ?_
        rotate_left; · (intro w hSw; (try dsimp only at hSw); go_simp; try with_reducible rfl)
        try simp only [Act.put, List.setIfInBounds_toArray, List.set_cons_zero, List.set_cons_succ]
        refine takeH2 (v := ?_) (by kernel_rfl) (by kernel_rfl) (by kernel_rfl) (fun _ _ _ h => h) hHeld (by rfl) ?_ ?_
        rotate_left; · (intro w hSw; (try dsimp only at hSw); go_simp; try with_reducible rfl)
        try simp only [Act.put, List.setIfInBounds_toArray, List.set_cons_zero, List.set_cons_succ]
        refine takeH3 (v := ?_) (by kernel_rfl) (by kernel_rfl) (by kernel_rfl) (fun _ _ _ h => h) hHeld (by rfl) ?_ ?_
        rotate_left; · (intro w hSw; (try dsimp only at hSw); go_simp; try with_reducible rfl)
        try simp only [Act.put, List.setIfInBounds_toArray, List.set_cons_zero, List.set_cons_succ]
        refine takeH4 (v := ?_) (by kernel_rfl) (by kernel_rfl) (by kernel_rfl) (fun _ _ _ h => h) hHeld (by rfl) ?_ ?_
        rotate_left; · (intro w hSw; (try dsimp only at hSw); go_simp; try with_reducible rfl)
        try simp only [Act.put, List.setIfInBounds_toArray, List.set_cons_zero, List.set_cons_succ]
        refine takeH5 (v := ?_) (by kernel_rfl) (by kernel_rfl) (by kernel_rfl) (fun _ _ _ h => h) hHeld (by rfl) ?_ ?_
        rotate_left; · (intro w hSw; (try dsimp only at hSw); go_simp; try with_reducible rfl)
        try simp only [Act.put, List.setIfInBounds_toArray, List.set_cons_zero, List.set_cons_succ]
        refine skipH6 (by kernel_rfl) (by kernel_rfl) (by kernel_rfl) (fun _ _ _ h => h) hHeld (by rfl) ?_
        try simp only [Act.put, List.setIfInBounds_toArray, List.set_cons_zero, List.set_cons_succ]
        refine skipH7 (by kernel_rfl) (by kernel_rfl) (by kernel_rfl) (fun _ _ _ h => h) hHeld (by rfl) ?_
        try simp only [Act.put, List.setIfInBounds_toArray, List.set_cons_zero, List.set_cons_succ]
        refine skipH8 (by kernel_rfl) (by kernel_rfl) (by kernel_rfl) (fun _ _ _ h => h) hHeld (by rfl) ?_
        try simp only [Act.put, List.setIfInBounds_toArray, List.set_cons_zero, List.set_cons_succ]
        refine skipH9 (by kernel_rfl) (by kernel_rfl) (by kernel_rfl) (fun _ _ _ h => h) hHeld (by rfl) ?_
        try simp only [Act.put, List.setIfInBounds_toArray, List.set_cons_zero, List.set_cons_succ]
        refine skipH10 (by kernel_rfl) (by kernel_rfl) (by kernel_rfl) (fun _ _ _ h => h) hHeld (by rfl) ?_
        try simp only [Act.put, List.setIfInBounds_toArray, List.set_cons_zero, List.set_cons_succ]
        refine skipH11 (by kernel_rfl) (by kernel_rfl) (by kernel_rfl) (fun _ _ _ h => h) hHeld (by rfl) ?_
        try simp only [Act.put, List.setIfInBounds_toArray, List.set_cons_zero, List.set_cons_succ]
        refine skipH12 (by kernel_rfl) (by kernel_rfl) (by kernel_rfl) (fun _ _ _ h => h) hHeld (by rfl) ?_
        try simp only [Act.put, List.setIfInBounds_toArray, List.set_cons_zero, List.set_cons_succ]
        refine skipH13 (by kernel_rfl) (by kernel_rfl) (by kernel_rfl) (fun _ _ _ h => h) hHeld (by rfl) ?_
        try simp only [Act.put, List.setIfInBounds_toArray, List.set_cons_zero, List.set_cons_succ]
        refine skipH14 (by kernel_rfl) (by kernel_rfl) (by kernel_rfl) (fun _ _ _ h => h) hHeld (by rfl) ?_
        try simp only [Act.put, List.setIfInBounds_toArray, List.set_cons_zero, List.set_cons_succ]
        refine skipH15 (by kernel_rfl) (by kernel_rfl) (by kernel_rfl) (fun _ _ _ h => h) hHeld (by rfl) ?_
        try simp only [Act.put, List.setIfInBounds_toArray, List.set_cons_zero, List.set_cons_succ]
        refine skipH16 (by kernel_rfl) (by kernel_rfl) (by kernel_rfl) (fun _ _ _ h => h) hHeld (by rfl) ?_
        try simp only [Act.put, List.setIfInBounds_toArray, List.set_cons_zero, List.set_cons_succ]
        refine skipH17 (by kernel_rfl) (by kernel_rfl) (by kernel_rfl) (fun _ _ _ h => h) hHeld (by rfl) ?_
        try simp only [Act.put, List.setIfInBounds_toArray, List.set_cons_zero, List.set_cons_succ]
        refine skipH18 (by kernel_rfl) (by kernel_rfl) (by kernel_rfl) (fun _ _ _ h => h) hHeld (by rfl) ?_
        try simp only [Act.put, List.setIfInBounds_toArray, List.set_cons_zero, List.set_cons_succ]
        refine skipH19 (by kernel_rfl) (by kernel_rfl) (by kernel_rfl) (fun _ _ _ h => h) hHeld (by rfl) ?_
        try simp only [Act.put, List.setIfInBounds_toArray, List.set_cons_zero, List.set_cons_succ]
        refine skipH20 (by kernel_rfl) (by kernel_rfl) (by kernel_rfl) (fun _ _ _ h => h) hHeld (by rfl) ?_
        try simp only [Act.put, List.setIfInBounds_toArray, List.set_cons_zero, List.set_cons_succ]
        refine skipH21 (by kernel_rfl) (by kernel_rfl) (by kernel_rfl) (fun _ _ _ h => h) hHeld (by rfl) ?_
        try simp only [Act.put, List.setIfInBounds_toArray, List.set_cons_zero, List.set_cons_succ]
        refine skipH22 (by kernel_rfl) (by kernel_rfl) (by kernel_rfl) (fun _ _ _ h => h) hHeld (by rfl) ?_
        try simp only [Act.put, List.setIfInBounds_toArray, List.set_cons_zero, List.set_cons_succ]
        refine skipH23 (by kernel_rfl) (by kernel_rfl) (by kernel_rfl) (fun _ _ _ h => h) hHeld (by rfl) ?_
        try simp only [Act.put, List.setIfInBounds_toArray, List.set_cons_zero, List.set_cons_succ]
        refine skipH24 (by kernel_rfl) (by kernel_rfl) (by kernel_rfl) (fun _ _ _ h => h) hHeld (by rfl) ?_
        try simp only [Act.put, List.setIfInBounds_toArray, List.set_cons_zero, List.set_cons_succ]
        refine skipH25 (by kernel_rfl) (by kernel_rfl) (by kernel_rfl) (fun _ _ _ h => h) hHeld (by rfl) ?_
        try simp only [Act.put, List.setIfInBounds_toArray, List.set_cons_zero, List.set_cons_succ]
        refine takeH26 (v := ?_) (by kernel_rfl) (by kernel_rfl) (by kernel_rfl) (fun _ _ _ h => h) hHeld (by rfl) ?_ ?_
        rotate_left; · (intro w hSw; (try dsimp only at hSw); go_simp; try with_reducible rfl)
        try simp only [Act.put, List.setIfInBounds_toArray, List.set_cons_zero, List.set_cons_succ]
        refine wpAnyH_done (by kernel_rfl) ?_ _
        go_wp2
        go_roundw
        case rel => exact ⟨k + 1, by omega, by go_num, bx, Below.drew hq⟩
        case measure => simp [intOf]; omega
      · obtain ⟨hown, hhas⟩ := hcase.resolve_left hneg
        have e1 : (gi p k != -1) = true := by simp [hneg]
        have e2 : (gi o k != who) = false := by simp [hown]
        have HH := Lib.hid hhas
        clear hneg hown hhas hcase
        go_wp2_with fail
        refine wp_region_held_drew (S := (fun w' => w'.cell? ⟨w.heap.size, 0, none⟩ = some (.slice (some ⟨bo, oo, none⟩) m c0) ∧ w'.cell? ⟨w.heap.size, 1, none⟩ = some (.slice (some ⟨bn, on, none⟩) n1 c1) ∧ w'.cell? ⟨bo, oo + k, none⟩ = some (.int .i64 (gi o k)) ∧ w'.cell? ⟨bn, on + k, none⟩ = some (.slice An nn cn) ∧ w'.cell? ⟨bp, op + k, none⟩ = some (.int .i64 (gi p k)))) (by kernel_rfl) (⟨q0, q1, kO, kN, kP⟩) (fun hHeld => ?_)
        refine takeH0 (v := ?_) (by kernel_rfl) (by kernel_rfl) (by kernel_rfl) (fun _ _ _ h => h) hHeld (by rfl) ?_ ?_
        rotate_left; · (intro w hSw; (try dsimp only at hSw); go_simp; try with_reducible rfl)
        try simp only [Act.put, List.setIfInBounds_toArray, List.set_cons_zero, List.set_cons_succ]
        refine takeH1 (v := ?_) (by kernel_rfl) (by kernel_rfl) (by kernel_rfl) (fun _ _ _ h => h) hHeld (by rfl) ?_ ?_
        rotate_left; · (intro w hSw; (try dsimp only at hSw); go_simp; try with_reducible rfl)
        try simp only [Act.put, List.setIfInBounds_toArray, List.set_cons_zero, List.set_cons_succ]
        refine takeH2 (v := ?_) (by kernel_rfl) (by kernel_rfl) (by kernel_rfl) (fun _ _ _ h => h) hHeld (by rfl) ?_ ?_
        rotate_left; · (intro w hSw; (try dsimp only at hSw); go_simp; try with_reducible rfl)
        try simp only [Act.put, List.setIfInBounds_toArray, List.set_cons_zero, List.set_cons_succ]
        refine takeH3 (v := ?_) (by kernel_rfl) (by kernel_rfl) (by kernel_rfl) (fun _ _ _ h => h) hHeld (by rfl) ?_ ?_
        rotate_left; · (intro w hSw; (try dsimp only at hSw); go_simp; try with_reducible rfl)
        try simp only [Act.put, List.setIfInBounds_toArray, List.set_cons_zero, List.set_cons_succ]
        refine takeH4 (v := ?_) (by kernel_rfl) (by kernel_rfl) (by kernel_rfl) (fun _ _ _ h => h) hHeld (by rfl) ?_ ?_
        rotate_left; · (intro w hSw; (try dsimp only at hSw); go_simp; try with_reducible rfl)
        try simp only [Act.put, List.setIfInBounds_toArray, List.set_cons_zero, List.set_cons_succ]
        refine takeH5 (v := ?_) (by kernel_rfl) (by kernel_rfl) (by kernel_rfl) (fun _ _ _ h => h) hHeld (by rfl) ?_ ?_
        rotate_left; · (intro w hSw; (try dsimp only at hSw); go_simp; try with_reducible rfl)
        try simp only [Act.put, List.setIfInBounds_toArray, List.set_cons_zero, List.set_cons_succ]
        refine takeH6 (v := ?_) (by kernel_rfl) (by kernel_rfl) (by kernel_rfl) (fun _ _ _ h => h) hHeld (by rfl) ?_ ?_
        rotate_left; · (intro w hSw; (try dsimp only at hSw); go_simp; try with_reducible rfl)
        try simp only [Act.put, List.setIfInBounds_toArray, List.set_cons_zero, List.set_cons_succ]
        refine takeH7 (v := ?_) (by kernel_rfl) (by kernel_rfl) (by kernel_rfl) (fun _ _ _ h => h) hHeld (by rfl) ?_ ?_
        rotate_left; · (intro w hSw; (try dsimp only at hSw); go_simp; try with_reducible rfl)
        try simp only [Act.put, List.setIfInBounds_toArray, List.set_cons_zero, List.set_cons_succ]
        refine takeH8 (v := ?_) (by kernel_rfl) (by kernel_rfl) (by kernel_rfl) (fun _ _ _ h => h) hHeld (by rfl) ?_ ?_
        rotate_left; · (intro w hSw; (try dsimp only at hSw); go_simp; try with_reducible rfl)
        try simp only [Act.put, List.setIfInBounds_toArray, List.set_cons_zero, List.set_cons_succ]
        refine takeH9 (v := ?_) (by kernel_rfl) (by kernel_rfl) (by kernel_rfl) (fun _ _ _ h => h) hHeld (by rfl) ?_ ?_
        rotate_left; · (intro w hSw; (try dsimp only at hSw); go_simp; try with_reducible rfl)
        try simp only [Act.put, List.setIfInBounds_toArray, List.set_cons_zero, List.set_cons_succ]
        refine takeH10 (v := ?_) (by kernel_rfl) (by kernel_rfl) (by kernel_rfl) (fun _ _ _ h => h) hHeld (by rfl) ?_ ?_
        rotate_left; · (intro w hSw; (try dsimp only at hSw); go_simp; try with_reducible rfl)
        try simp only [Act.put, List.setIfInBounds_toArray, List.set_cons_zero, List.set_cons_succ]
        refine takeH11 (v := ?_) (by kernel_rfl) (by kernel_rfl) (by kernel_rfl) (fun _ _ _ h => h) hHeld (by rfl) ?_ ?_
        rotate_left; · (intro w hSw; (try dsimp only at hSw); go_simp; try with_reducible rfl)
        try simp only [Act.put, List.setIfInBounds_toArray, List.set_cons_zero, List.set_cons_succ]
        refine takeH12 (v := ?_) (by kernel_rfl) (by kernel_rfl) (by kernel_rfl) (fun _ _ _ h => h) hHeld (by rfl) ?_ ?_
        rotate_left; · (intro w hSw; (try dsimp only at hSw); go_simp; try with_reducible rfl)
        try simp only [Act.put, List.setIfInBounds_toArray, List.set_cons_zero, List.set_cons_succ]
        refine takeH13 (v := ?_) (by kernel_rfl) (by kernel_rfl) (by kernel_rfl) (fun _ _ _ h => h) hHeld (by rfl) ?_ ?_
        rotate_left; · (intro w hSw; (try dsimp only at hSw); go_simp; try with_reducible rfl)
        try simp only [Act.put, List.setIfInBounds_toArray, List.set_cons_zero, List.set_cons_succ]
        refine takeH14 (v := ?_) (by kernel_rfl) (by kernel_rfl) (by kernel_rfl) (fun _ _ _ h => h) hHeld (by rfl) ?_ ?_
        rotate_left; · (intro w hSw; (try dsimp only at hSw); go_simp; try with_reducible rfl)
        try simp only [Act.put, List.setIfInBounds_toArray, List.set_cons_zero, List.set_cons_succ]
        refine takeH15 (v := ?_) (by kernel_rfl) (by kernel_rfl) (by kernel_rfl) (fun _ _ _ h => h) hHeld (by rfl) ?_ ?_
        rotate_left; · (intro w hSw; (try dsimp only at hSw); go_simp; try with_reducible rfl)
        try simp only [Act.put, List.setIfInBounds_toArray, List.set_cons_zero, List.set_cons_succ]
        refine takeH16 (v := ?_) (by kernel_rfl) (by kernel_rfl) (by kernel_rfl) (fun _ _ _ h => h) hHeld (by rfl) ?_ ?_
        rotate_left; · (intro w hSw; (try dsimp only at hSw); go_simp; try with_reducible rfl)
        try simp only [Act.put, List.setIfInBounds_toArray, List.set_cons_zero, List.set_cons_succ]
        refine takeH17 (v := ?_) (by kernel_rfl) (by kernel_rfl) (by kernel_rfl) (fun _ _ _ h => h) hHeld (by rfl) ?_ ?_
        rotate_left; · (intro w hSw; (try dsimp only at hSw); go_simp; try with_reducible rfl)
        try simp only [Act.put, List.setIfInBounds_toArray, List.set_cons_zero, List.set_cons_succ]
        refine takeH18 (v := ?_) (by kernel_rfl) (by kernel_rfl) (by kernel_rfl) (fun _ _ _ h => h) hHeld (by rfl) ?_ ?_
        rotate_left; · (intro w hSw; (try dsimp only at hSw); go_simp; try with_reducible rfl)
        try simp only [Act.put, List.setIfInBounds_toArray, List.set_cons_zero, List.set_cons_succ]
        refine takeH19 (v := ?_) (by kernel_rfl) (by kernel_rfl) (by kernel_rfl) (fun _ _ _ h => h) hHeld (by rfl) ?_ ?_
        rotate_left; · (intro w hSw; (try dsimp only at hSw); go_simp; try with_reducible rfl)
        try simp only [Act.put, List.setIfInBounds_toArray, List.set_cons_zero, List.set_cons_succ]
        refine takeH20 (v := ?_) (by kernel_rfl) (by kernel_rfl) (by kernel_rfl) (fun _ _ _ h => h) hHeld (by rfl) ?_ ?_
        rotate_left; · (intro w hSw; (try dsimp only at hSw); go_simp; try with_reducible rfl)
        try simp only [Act.put, List.setIfInBounds_toArray, List.set_cons_zero, List.set_cons_succ]
        refine takeH21 (v := ?_) (by kernel_rfl) (by kernel_rfl) (by kernel_rfl) (fun _ _ _ h => h) hHeld (by rfl) ?_ ?_
        rotate_left; · (intro w hSw; (try dsimp only at hSw); go_simp; try with_reducible rfl)
        try simp only [Act.put, List.setIfInBounds_toArray, List.set_cons_zero, List.set_cons_succ]
        refine takeH22 (v := ?_) (by kernel_rfl) (by kernel_rfl) (by kernel_rfl) (fun _ _ _ h => h) hHeld (by rfl) ?_ ?_
        rotate_left; · (intro w hSw; (try dsimp only at hSw); go_simp; try with_reducible rfl)
        try simp only [Act.put, List.setIfInBounds_toArray, List.set_cons_zero, List.set_cons_succ]
        refine callH23 (by kernel_rfl) (fun K hK => ?_)
        go_simp
        go_at_call 34
        refine (l1Has _ _ _ (gl n k) _ _ (hrow.keep (keeps_below (Below.drew (Below.refl wr.heap.size wr))))).mono ?_; rintro e w' ⟨rfl, q2, rfl⟩
        rw [HH.out]
        have kP := kP
        go_wp2_with fail
        refine hK.out _ _ (⟨q0, q1, kO, kN, kP⟩) (fun hHeld => ?_)
        clear hK K
        try simp only [Act.put, List.setIfInBounds_toArray, List.set_cons_zero, List.set_cons_succ]
        refine takeH24 (v := ?_) (by kernel_rfl) (by kernel_rfl) (by kernel_rfl) (fun _ _ _ h => h) hHeld (by rfl) ?_ ?_
        rotate_left; · (intro w hSw; (try dsimp only at hSw); go_simp; try with_reducible rfl)
        try simp only [Act.put, List.setIfInBounds_toArray, List.set_cons_zero, List.set_cons_succ]
        refine takeH25 (v := ?_) (by kernel_rfl) (by kernel_rfl) (by kernel_rfl) (fun _ _ _ h => h) hHeld (by rfl) ?_ ?_
        rotate_left; · (intro w hSw; (try dsimp only at hSw); go_simp; try with_reducible rfl)
        try simp only [Act.put, List.setIfInBounds_toArray, List.set_cons_zero, List.set_cons_succ]
        refine takeH26 (v := ?_) (by kernel_rfl) (by kernel_rfl) (by kernel_rfl) (fun _ _ _ h => h) hHeld (by rfl) ?_ ?_
        rotate_left; · (intro w hSw; (try dsimp only at hSw); go_simp; try with_reducible rfl)
        try simp only [Act.put, List.setIfInBounds_toArray, List.set_cons_zero, List.set_cons_succ]
        refine wpAnyH_done (by kernel_rfl) ?_ _
        go_wp2
        go_roundw
        case rel => exact ⟨k + 1, by omega, by go_num, bx, below_drewN hq _⟩
        case measure => simp [intOf]; omega
    · obtain rfl : k = m := by omega
      go_wp2
      go_ret
      exact ⟨rfl, hq.mono hB⟩

set_option maxRecDepth 100000 in
theorem planOk (A0 A1 C : Option Addr) (n0 c0 n1 c1 m d : Nat) (o : List Int) (n : List (List Int)) (who : Int) (p : List Int) (w : World) (B : Nat) (hB : B ≤ w.heap.size) (ha : RI w A0 n0 c0 o) (hb : RII w A1 n1 c1 n) (hp : RI w C m d p) (hf : fineAr o n) (har : arB o n = true) (hw : 0 ≤ who ∧ who ≤ 1) (hfp : fineP o n who p) :
    Calls Tryz.prog 52 #[.agg #[.slice A0 n0 c0, .slice A1 n1 c1], .int .i64 who, .slice C m d] w fun e w' => e = .returned (.bool true) ∧ Below B w w' := by
  have hba : Below w.heap.size w (w.alloc (.cells #[.slice A0 n0 c0, .slice A1 n1 c1] 30)) := below_alloc (Nat.le_refl _) (Below.refl _ _)
  have bx := Box.new w 30 #[.slice A0 n0 c0, .slice A1 n1 c1]
  have q0 := bx.d0; have q1 := bx.d1
  have EI := Lib.hid (show inR who 0 1 = true from decide_eq_true hw)
  go_enter Tryz.func52, Tryz.ntmps52
  go_wp2_with fail
  refine (specArenaOk _ _ _ _ _ _ o n _ _ (Nat.le_refl _) (ha.keep (keeps_below hba)) (hb.keep (keeps_below hba))).mono ?_; rintro e w1 ⟨rfl, hb1⟩
  rw [har]
  have hw1 := below_then hb1 hba.size hba
  replace bx := bx.below hb1 bx.lt
  clear q0 q1
  have q0 := bx.d0; have q1 := bx.d1
  go_wp2_with fail
  refine (l1In _ _ _ _).mono ?_; rintro e w2 ⟨rfl, q2⟩
  rw [EI.out]
  have hb2 := below_qt q2 (Below.refl w1.heap.size w1)
  have hw2 := below_then hb2 hw1.size hw1
  replace bx := bx.below hb2 bx.lt
  clear q0 q1
  have q0 := bx.d0; have q1 := bx.d1
  go_wp2_with fail
  refine (l5Plan _ _ _ _ _ _ _ _ _ o n who p _ _ (Nat.le_refl _) (ha.keep (keeps_below hw2)) (hb.keep (keeps_below hw2)) (hp.keep (keeps_below hw2)) hf hfp).mono ?_; rintro e w3 ⟨rfl, hb3⟩
  have hw3 := below_then hb3 hw2.size hw2
  go_wp2
  go_ret
  exact ⟨rfl, hw3.mono hB⟩

set_option maxRecDepth 100000 in
set_option maxHeartbeats 800000 in
theorem fullIn (A0 A1 C : Option Addr) (n0 c0 n1 c1 m d : Nat) (o : List Int) (n : List (List Int)) (who : Int) (p : List Int) (w : World) (B : Nat) (hB : B ≤ w.heap.size) (ha : RI w A0 n0 c0 o) (hb : RII w A1 n1 c1 n) (hp : RI w C m d p) (hf : fineAr o n) (har : arB o n = true) (hw : 0 ≤ who ∧ who ≤ 1) (hfp : fullP o n who p) :
    Calls Tryz.prog 32 #[.agg #[.slice A0 n0 c0, .slice A1 n1 c1], .int .i64 who, .slice C m d] w fun e w' => e = .returned (.bool true) ∧ Below B w w' := by
  have HL := Lib.hid ha.len; have HM := Lib.hid hb.len
  have hn0 : n0 ≤ 256 := by have := hf.2.1; rw [HL.out] at this; omega
  have h01 : n1 = n0 := by rw [← HM.out, hf.2.2.1, HL.out]
  have HF := Lib.hid hf
  have H01 := Lib.hid h01
  have hn1 : n1 ≤ 256 := by omega
  clear h01
  have b1 := ha.cap; have b2 := ha.top; have b3 := hb.cap; have b4 := hb.top
  have hba : Below w.heap.size w (w.alloc (.cells #[.slice A0 n0 c0, .slice A1 n1 c1] 30)) := below_alloc (Nat.le_refl _) (Below.refl _ _)
  have bx := Box.new w 30 #[.slice A0 n0 c0, .slice A1 n1 c1]
  have hpl : m = n0 := by rw [← hp.len, hfp.1, HL.out]
  subst hpl
  have HP := Lib.hid hfp
  have b5 := hp.cap; have b6 := hp.top
  have q0 := bx.d0; have q1 := bx.d1
  go_enter Tryz.func32, Tryz.ntmps32
  go_wp2_with fail
  refine (planOk _ _ _ _ _ _ _ _ _ o n who p _ _ (Nat.le_refl _) (ha.keep (keeps_below hba)) (hb.keep (keeps_below hba)) (hp.keep (keeps_below hba)) hf har hw hfp.fine).mono ?_; rintro e w1 ⟨rfl, hb1⟩
  have hw1 := below_then hb1 hba.size hba
  replace bx := bx.below hb1 bx.lt
  clear q0 q1 hb1 hfp
  go_wp2
  go_loopw [7] (fun i wr => ∃ k : Nat, k ≤ m ∧ i = .int .i64 k ∧ wr = w1) (fun i _ => m - (intOf i).toNat)
  case atStart => exact ⟨0, Nat.zero_le _, rfl, rfl⟩
  case round =>
    obtain ⟨k, hk, rfl, rfl⟩ := hrel
    have q0 := bx.d0; have q1 := bx.d1
    by_cases hkl : k < m
    · obtain ⟨bp, op, rfl, hcP⟩ := hp.at_ hkl
      obtain ⟨bo, oo, rfl, hcO⟩ := ha.at_ hkl
      have kO := keeps_below hw1 _ _ hcO; have kP := keeps_below hw1 _ _ hcP
      have hki : (k : Int) < (m : Int) := by omega
      have hk0 : (0 : Int) ≤ (k : Int) := by omega
      by_cases hown : gi o k = who
      · have hge := (row_has HF.out (by rw [HL.out]; exact hkl) ((HP.out.2 k (by rw [HL.out]; exact hkl)).1 hown)).1
        have e1 : (gi o k == who) = true := by simp [hown]
        have e2 : decide (gi p k < 0) = false := decide_eq_false (by omega)
        clear hown
        go_wp2
        go_roundw
        case rel => exact ⟨k + 1, by omega, by go_num, by first | rfl | trivial⟩
        case measure => simp [intOf]; omega
      · have e1 : (gi o k == who) = false := by simp [hown]
        clear hown
        go_wp2
        go_roundw
        case rel => exact ⟨k + 1, by omega, by go_num, by first | rfl | trivial⟩
        case measure => simp [intOf]; omega
    · obtain rfl : k = m := by omega
      go_wp2
      go_ret
      exact ⟨rfl, hw1.mono hB⟩

set_option maxRecDepth 100000 in
theorem l1There (A0 A1 : Option Addr) (n0 c0 n1 c1 : Nat) (v : Int) (w : World) (B : Nat) (hB : B ≤ w.heap.size) (hn0 : n0 ≤ 256) (hn1 : 1 ≤ n0) (hv : 0 ≤ v ∧ v < n0) :
    Calls Tryz.prog 33 #[.agg #[.slice A0 n0 c0, .slice A1 n1 c1], .int .i64 v] w fun e w' => e = .returned (.bool true) ∧ Below B w w' := by
  have hba : Below w.heap.size w (w.alloc (.cells #[.slice A0 n0 c0, .slice A1 n1 c1] 30)) := below_alloc (Nat.le_refl _) (Below.refl _ _)
  have q0 := (Box.new w 30 #[.slice A0 n0 c0, .slice A1 n1 c1]).d0
  have EI := Lib.hid (show inR v 0 ((n0 : Int) - 1) = true from decide_eq_true ⟨hv.1, by omega⟩)
  go_enter Tryz.func33, Tryz.ntmps33
  go_wp2_with fail
  refine (l1In _ _ _ _).mono ?_; rintro e w2 ⟨rfl, q2⟩
  rw [EI.out]
  go_wp2
  go_ret
  exact ⟨rfl, (below_then (below_qt q2 (Below.refl _ _)) hba.size hba).mono hB⟩

theorem l1Place (A : Option Addr) (n c : Nat) (xs : List Int) (x : Int) (k : Nat) (w : World) (ha : RI w A n c xs) (hk : k < n) (hx : gi xs k = x) (hall : ∀ j, j < k → gi xs j ≠ x) :
    Calls Tryz.prog 35 #[.slice A n c, .int .i64 x] w fun e w' => e = .returned (.int .i64 (k : Int)) ∧ Qt w w' := by
  have b1 := ha.cap; have b2 := ha.top
  have HX := Lib.hid hx; have HA := Lib.hid hall
  clear hx hall
  go_enter Tryz.func35, Tryz.ntmps35
  go_wp2
  go_loop [5] (fun i => ∃ j : Nat, j ≤ k ∧ i = .int .i64 j) (fun i => n - (intOf i).toNat)
  case atStart => exact ⟨0, Nat.zero_le _, rfl⟩
  case round =>
    obtain ⟨j, hj, rfl⟩ := hrel
    have hjn : j < n := by omega
    have hji : (j : Int) < (n : Int) := by omega
    obtain ⟨b, off, rfl, hc1⟩ := ha.at_ hjn
    by_cases he : j = k
    · subst he
      have hne : (gi xs j == x) = true := by simp [HX.out]
      go_wp2
      go_ret
      exact ⟨rfl, Qt.refl _⟩
    · have hne : (gi xs j == x) = false := by simpa using HA.out j (by omega)
      go_wp2
      go_round
      case rel => exact ⟨j + 1, by omega, by go_num⟩
      case measure => simp [intOf]; omega
end Go.Proofs.YtjjaolndencplaaGreat
namespace Go.Proofs.YtjjaolndencplaaGreat
open Go.RowKit

def nxN (o e d : List Int) (x : Nat) : Nat := (if gi o x = 0 then gi e x else gi d x).toNat
def itr (f : Nat → Nat) (v : Nat) : Nat → Nat
  | 0 => v
  | i + 1 => f (itr f v i)
def itrL (f : Nat → Nat) (v a len : Nat) : List Int := (List.range len).map fun i => (itr f v (a + i) : Int)
theorem itrL_len (f : Nat → Nat) (v a len : Nat) : (itrL f v a len).length = len := by simp [itrL]
theorem itrL_at {f : Nat → Nat} {v a len i : Nat} (h : i < len) : gi (itrL f v a len) i = (itr f v (a + i) : Int) := by
  rw [gi_get (by rw [itrL_len]; exact h)]
  simp [itrL]
theorem itrL_succ (f : Nat → Nat) (v len : Nat) : itrL f v 0 (len + 1) = itrL f v 0 len ++ [(itr f v len : Int)] := by
  unfold itrL
  rw [List.range_succ, List.map_append]
  simp
theorem itrL_take {f : Nat → Nat} {v t k : Nat} (h : k ≤ t) : (itrL f v 0 t).take k = itrL f v 0 k :=
  gi_ext (by rw [List.length_take, itrL_len, itrL_len]; omega) fun j hj => by
    rw [List.length_take, itrL_len] at hj
    rw [gi_take (by omega), itrL_at (by omega), itrL_at (by omega)]
theorem itrL_drop {f : Nat → Nat} {v t k : Nat} (h : k ≤ t) : (itrL f v 0 t).drop k = itrL f v k (t - k) :=
  gi_ext (by rw [List.length_drop, itrL_len, itrL_len]) fun j hj => by
    rw [List.length_drop, itrL_len] at hj
    rw [gi_drop, itrL_at (by omega), itrL_at (by omega), Nat.zero_add]
theorem RI.drop {w : World} {g n c k : Nat} {xs : List Int} (h : RI w (some ⟨g, 0, none⟩) n c xs) (hk : k ≤ n) : RI w (some ⟨g, k, none⟩) (n - k) (c - k) (xs.drop k) :=
  ⟨by rw [List.length_drop, h.1], ⟨by have := h.cap; omega, by have := h.top; omega⟩, fun i hi => by
    obtain ⟨b, off, e, hc⟩ := h.2.2 (k + i) (by omega)
    injection e with e
    injection e with e1 e2
    subst e1; subst e2
    exact ⟨_, _, rfl, by rw [gi_drop]; simpa using hc⟩⟩
/-- as many as are apart fit below n -/
theorem pig : ∀ (n t : Nat) (f : Nat → Nat), (∀ i, i < t → f i < n) → (∀ i j, i < j → j < t → f i ≠ f j) → t ≤ n
  | 0, t, f, h, _ => by
    rcases Nat.eq_zero_or_pos t with e | e
    · omega
    · exact absurd (h 0 e) (by omega)
  | n + 1, t, f, h, hd => by
    by_cases hx : ∃ i, i < t ∧ f i = n
    · obtain ⟨i0, hi0, he⟩ := hx
      have key := pig n (t - 1) (fun i => if i < i0 then f i else f (i + 1)) (fun i hi => by
        show (if i < i0 then f i else f (i + 1)) < n
        by_cases e : i < i0
        · rw [if_pos e]
          have h1 := h i (by omega)
          have h2 := hd i i0 e hi0
          omega
        · rw [if_neg e]
          have h1 := h (i + 1) (by omega)
          have h2 := hd i0 (i + 1) (by omega) (by omega)
          omega) (fun i j hij hj => by
        show (if i < i0 then f i else f (i + 1)) ≠ (if j < i0 then f j else f (j + 1))
        by_cases e : i < i0
        · rw [if_pos e]
          by_cases e2 : j < i0
          · rw [if_pos e2]; exact hd i j hij (by omega)
          · rw [if_neg e2]; exact hd i (j + 1) (by omega) (by omega)
        · rw [if_neg e, if_neg (by omega)]
          exact hd (i + 1) (j + 1) (by omega) (by omega))
      omega
    · have := pig n t f (fun i hi => by
        have h1 := h i hi
        have h2 : f i ≠ n := fun e => hx ⟨i, hi, e⟩
        omega) hd
      omega
/-- a play: what is met before the loop, and the loop -/
def isPlay (f : Nat → Nat) (v : Nat) (st lp : List Int) : Prop := ∃ k t, k < t ∧ st = itrL f v 0 k ∧ lp = itrL f v k (t - k) ∧ itr f v t = itr f v k
def lenOf : Value → Nat
  | .slice _ n _ => n
  | _ => 0

set_option maxRecDepth 100000 in
set_option maxHeartbeats 1600000 in
theorem playOf (A0 A1 C D : Option Addr) (n0 c0 n1 c1 m d m2 d2 : Nat) (o : List Int) (n : List (List Int)) (pe pd : List Int) (v : Nat) (w : World) (B : Nat) (hB : B ≤ w.heap.size) (ha : RI w A0 n0 c0 o) (hb : RII w A1 n1 c1 n) (hp : RI w C m d pe) (hp2 : RI w D m2 d2 pd) (hf : fineAr o n) (har : arB o n = true)
    (hfe : fullP o n 0 pe) (hfd : fullP o n 1 pd) (hv : v < n0) :
    Calls Tryz.prog 12 #[.agg #[.slice A0 n0 c0, .slice A1 n1 c1], .slice C m d, .slice D m2 d2, .int .i64 (v : Int)] w fun e w' => ∃ v0 v1 st lp, e = .returned (.tuple #[.agg #[v0, v1], .bool true]) ∧ isPlay (nxN o pe pd) v st lp ∧ (st.length ≤ n0 ∧ lp.length ≤ n0) ∧ OI 2 w' B v0 st ∧ OI 2 w' B v1 lp ∧ Below B w w' := by
  have HL := Lib.hid ha.len; have HM := Lib.hid hb.len
  have hn0 : n0 ≤ 256 := by have := hf.2.1; rw [HL.out] at this; omega
  have HF := Lib.hid hf
  have b1 := ha.cap; have b2 := ha.top; have b3 := hb.cap; have b4 := hb.top
  have hpl : m = n0 := by rw [← hp.len, hfe.1, HL.out]
  have hpl2 : m2 = n0 := by rw [← hp2.len, hfd.1, HL.out]
  subst hpl
  replace hpl2 := hpl2.symm
  subst hpl2
  have hstep : ∀ x, x < m → (gi o x = 0 → gi pe x = ((nxN o pe pd x : Nat) : Int)) ∧ (¬ gi o x = 0 → gi pd x = ((nxN o pe pd x : Nat) : Int)) ∧ nxN o pe pd x < m := fun x hx => by
    have hx' : x < o.length := by rw [HL.out]; exact hx
    have hown := (HF.out.2.2.2 x hx').1
    unfold nxN
    by_cases e : gi o x = 0
    · have h1 := row_has HF.out hx' ((hfe.2 x hx').1 e)
      rw [HL.out] at h1
      rw [if_pos e]
      exact ⟨fun _ => by omega, fun h => absurd e h, by omega⟩
    · have h1 := row_has HF.out hx' ((hfd.2 x hx').1 (by omega))
      rw [HL.out] at h1
      rw [if_neg e]
      exact ⟨fun h => absurd h e, fun _ => by omega, by omega⟩
  have HST := Lib.hid hstep
  have hitr : ∀ i, itr (nxN o pe pd) v i < m := fun i => by
    induction i with
    | zero => exact hv
    | succ i ih => exact (hstep _ ih).2.2
  have HIT := Lib.hid hitr
  clear hstep hitr
  have hbw : Below w.heap.size w ((w.alloc (.cells #[.slice A0 m c0, .slice A1 n1 c1] 30)).alloc (.cells #[.slice none 0 0, .slice none 0 0] 38)) := below_alloc (Nat.le_refl _) (below_alloc (Nat.le_refl _) (Below.refl _ _))
  have bx := (Box.new w 30 #[.slice A0 m c0, .slice A1 n1 c1]).alloc (.cells #[.slice none 0 0, .slice none 0 0] 38)
  have bR : Box ((w.alloc (.cells #[.slice A0 m c0, .slice A1 n1 c1] 30)).alloc (.cells #[.slice none 0 0, .slice none 0 0] 38)) (w.heap.size + 1) 38 #[.slice none 0 0, .slice none 0 0] := Box.new' (by simp)
  have q0 := bx.d0; have q1 := bx.d1
  go_enter Tryz.func12, Tryz.ntmps12
  go_wp2_with fail
  refine (fullIn _ _ _ _ _ _ _ _ _ o n 0 pe _ _ (Nat.le_refl _) (ha.keep (keeps_below hbw)) (hb.keep (keeps_below hbw)) (hp.keep (keeps_below hbw)) hf har (by omega) hfe).mono ?_; rintro e w1 ⟨rfl, hb1⟩
  have hw1 := below_then hb1 hbw.size hbw
  replace bx := bx.below hb1 bx.lt; replace bR := bR.below hb1 bR.lt
  clear q0 q1 hb1 hbw
  have q0 := bx.d0; have q1 := bx.d1
  go_wp2_with fail
  refine (fullIn _ _ _ _ _ _ _ _ _ o n 1 pd _ _ (Nat.le_refl _) (ha.keep (keeps_below hw1)) (hb.keep (keeps_below hw1)) (hp2.keep (keeps_below hw1)) hf har (by omega) hfd).mono ?_; rintro e w2 ⟨rfl, hb2⟩
  have hw2 := below_then hb2 hw1.size hw1
  replace bx := bx.below hb2 bx.lt; replace bR := bR.below hb2 bR.lt
  clear q0 q1 hb2
  have q0 := bx.d0; have q1 := bx.d1
  go_wp2_with fail
  refine (l1There _ _ _ _ _ _ _ _ _ (Nat.le_refl _) hn0 (by omega) (by omega)).mono ?_; rintro e w3 ⟨rfl, hb3⟩
  have hw3 := below_then hb3 hw2.size hw2
  replace bx := bx.below hb3 bx.lt; replace bR := bR.below hb3 bR.lt
  clear q0 q1 hb3
  have bx3lt : w.heap.size < w3.heap.size := bx.lt
  have bR3lt : w.heap.size + 1 < w3.heap.size := bR.lt
  have hem := OI.empty (E := 2) (w := w3) (B := w3.heap.size) (Nat.le_refl _)
  have hbe : Below w3.heap.size w3 (w3.alloc (.cells #[] 2)) := below_alloc (Nat.le_refl _) (Below.refl _ _)
  go_wp2
  go_loopw [3, 10] (fun i u wr => ∃ t : Nat, i = .int .i64 (itr (nxN o pe pd) v t) ∧ OI 2 wr w3.heap.size u (itrL (nxN o pe pd) v 0 t) ∧ (∀ i j, i < j → j < t → itr (nxN o pe pd) v i ≠ itr (nxN o pe pd) v j) ∧ Below w3.heap.size w3 wr) (fun _ u _ => m - lenOf u)
  case atStart => exact ⟨0, rfl, hem, fun i j _ h => absurd h (by omega), hbe⟩
  case round =>
    clear hem hbe
    obtain ⟨t, rfl, ho, hdis, hbr⟩ := hrel
    have HD := Lib.hid hdis
    clear hdis
    have htm : t ≤ m := pig m t (fun i => itr (nxN o pe pd) v i) (fun i _ => HIT.out i) (fun i j h1 h2 => HD.out i j h1 h2)
    have hq := below_then hbr hw3.size hw3
    have hsz := hbr.size
    replace bx := bx.below hbr bx.lt; replace bR := bR.below hbr bR.lt
    have q0 := bx.d0
    obtain ⟨Au, cu, rfl⟩ := ho.form
    rw [itrL_len] at ho ⊢
    have hx := HIT.out t
    cases hh : hasL (itrL (nxN o pe pd) v 0 t) (itr (nxN o pe pd) v t : Int) with
    | false =>
      have HH := Lib.hid hh
      have HNE := Lib.hid (show ∀ i, i < t → itr (nxN o pe pd) v i ≠ itr (nxN o pe pd) v t from fun i hi e => of_decide_eq_false hh (by
        rw [← e]
        have h := gi_mem (xs := itrL (nxN o pe pd) v 0 t) (i := i) (by rw [itrL_len]; exact hi)
        rw [itrL_at hi, Nat.zero_add] at h
        exact h))
      clear hh
      have htm1 : t + 1 ≤ m := pig m (t + 1) (fun i => itr (nxN o pe pd) v i) (fun i _ => HIT.out i) (fun i j h1 h2 => by
        by_cases e : j < t
        · exact HD.out i j h1 e
        · obtain rfl : j = t := by omega
          exact HNE.out i h1)
      obtain ⟨bo, oo, rfl, hcO⟩ := ha.at_ hx
      obtain ⟨be, oe, rfl, hcE⟩ := hp.at_ hx
      obtain ⟨bd, od, rfl, hcD⟩ := hp2.at_ hx
      have hki : (itr (nxN o pe pd) v t : Int) < (m : Int) := by omega
      have hk0 : (0 : Int) ≤ (itr (nxN o pe pd) v t : Int) := by omega
      by_cases hown : gi o (itr (nxN o pe pd) v t) = 0
      · rw [(HST.out _ hx).1 hown] at hcE
        have e1 : (gi o (itr (nxN o pe pd) v t) == 0) = true := by simp [hown]
        clear hown
        go_wp2_with fail
        refine (l1Has _ _ _ (itrL (nxN o pe pd) v 0 t) _ _ ho.reads).mono ?_; rintro e w4 ⟨rfl, q4⟩
        rw [HH.out]
        have hb4 := below_qt q4 (Below.refl wr.heap.size wr)
        have ho4 := ho.below hb4
        have hq4 := below_then hb4 hq.size hq
        have bx4 := bx.below hb4 bx.lt
        have bR4 := bR.below hb4 bR.lt
        have hsz4 : w3.heap.size ≤ w4.heap.size := Nat.le_trans hsz hb4.size
        have hxl := bx3lt
        have hlen : (itrL (nxN o pe pd) v 0 t).length ≤ 4194304 := by rw [itrL_len]; omega
        clear ho hq bx bR q0
        go_wp2_with (at_builtin; refine wpList_pushI rfl (.tmp 34) (.tmp 36) rfl _ w3.heap.size (.slice Au t cu) (itrL (nxN o pe pd) v 0 t) (by rfl) ho4 _ (by rfl) hlen hsz4 ?_; intro v2 w5 ho5 hb5 hc5 hat5; obtain ⟨A5, c5, rfl⟩ := ho5.form; have bx5 := bx4.below hb5 (by omega); have q5 := bx5.d0; have hq5 := hq4.trans (hb5.mono (by omega)); have kO := keeps_below hq5 _ _ hcO; have kE := keeps_below hq5 _ _ hcE; have kD := keeps_below hq5 _ _ hcD)
        go_roundw
        case rel => exact ⟨t + 1, rfl, by rw [itrL_succ]; simpa using ho5, fun i j h1 h2 => by
          by_cases e : j < t
          · exact HD.out i j h1 e
          · obtain rfl : j = t := by omega
            exact HNE.out i h1, hbr.trans ((hb4.mono hsz).trans hb5)⟩
        case measure => simp [lenOf, itrL_len]; omega
      · rw [(HST.out _ hx).2.1 hown] at hcD
        have e1 : (gi o (itr (nxN o pe pd) v t) == 0) = false := by simp [hown]
        clear hown
        go_wp2_with fail
        refine (l1Has _ _ _ (itrL (nxN o pe pd) v 0 t) _ _ ho.reads).mono ?_; rintro e w4 ⟨rfl, q4⟩
        rw [HH.out]
        have hb4 := below_qt q4 (Below.refl wr.heap.size wr)
        have ho4 := ho.below hb4
        have hq4 := below_then hb4 hq.size hq
        have bx4 := bx.below hb4 bx.lt
        have bR4 := bR.below hb4 bR.lt
        have hsz4 : w3.heap.size ≤ w4.heap.size := Nat.le_trans hsz hb4.size
        have hxl := bx3lt
        have hlen : (itrL (nxN o pe pd) v 0 t).length ≤ 4194304 := by rw [itrL_len]; omega
        clear ho hq bx bR q0
        go_wp2_with (at_builtin; refine wpList_pushI rfl (.tmp 34) (.tmp 36) rfl _ w3.heap.size (.slice Au t cu) (itrL (nxN o pe pd) v 0 t) (by rfl) ho4 _ (by rfl) hlen hsz4 ?_; intro v2 w5 ho5 hb5 hc5 hat5; obtain ⟨A5, c5, rfl⟩ := ho5.form; have bx5 := bx4.below hb5 (by omega); have q5 := bx5.d0; have hq5 := hq4.trans (hb5.mono (by omega)); have kO := keeps_below hq5 _ _ hcO; have kE := keeps_below hq5 _ _ hcE; have kD := keeps_below hq5 _ _ hcD)
        go_roundw
        case rel => exact ⟨t + 1, rfl, by rw [itrL_succ]; simpa using ho5, fun i j h1 h2 => by
          by_cases e : j < t
          · exact HD.out i j h1 e
          · obtain rfl : j = t := by omega
            exact HNE.out i h1, hbr.trans ((hb4.mono hsz).trans hb5)⟩
        case measure => simp [lenOf, itrL_len]; omega
    | true =>
      have HH := Lib.hid hh
      obtain ⟨k, hkt, hkx, hkall⟩ : ∃ k, k < t ∧ gi (itrL (nxN o pe pd) v 0 t) k = (itr (nxN o pe pd) v t : Int) ∧ ∀ j, j < k → gi (itrL (nxN o pe pd) v 0 t) j ≠ (itr (nxN o pe pd) v t : Int) := by
        obtain ⟨k, hk, e⟩ := mem_gi (of_decide_eq_true hh)
        rw [itrL_len] at hk
        refine ⟨k, hk, e, fun j hj e2 => ?_⟩
        rw [itrL_at (by omega), Nat.zero_add] at e e2
        exact HD.out j k hj hk (by omega)
      have HK := Lib.hid hkx; have HKA := Lib.hid hkall
      have hip : itr (nxN o pe pd) v t = itr (nxN o pe pd) v k := by
        have e := HK.out
        rw [itrL_at hkt, Nat.zero_add] at e
        omega
      have HIP := Lib.hid hip
      clear hh hkx hkall hip
      obtain ⟨g, hge⟩ : ∃ g, Au = some ⟨g, 0, none⟩ := by
        obtain ⟨g, c', e⟩ := ho.form2 (by rw [itrL_len]; omega)
        injection e with e
        exact ⟨g, e⟩
      subst hge
      have bcu := ho.reads.cap; have tcu := ho.reads.top
      go_wp2_with fail
      refine (l1Has _ _ _ (itrL (nxN o pe pd) v 0 t) _ _ ho.reads).mono ?_; rintro e w4 ⟨rfl, q4⟩
      rw [HH.out]
      have hb4 := below_qt q4 (Below.refl wr.heap.size wr)
      replace ho := ho.below hb4; replace hq := below_then hb4 hq.size hq; replace bR := bR.below hb4 bR.lt
      clear q0 bx hbr hsz hb4 q4
      go_wp2_with fail
      refine (l1Place _ _ _ (itrL (nxN o pe pd) v 0 t) _ k _ ho.reads hkt HK.out HKA.out).mono ?_; rintro e w5 ⟨rfl, q5⟩
      have hb5 := below_qt q5 (Below.refl w4.heap.size w4)
      replace ho := ho.below hb5; replace hq := below_then hb5 hq.size hq; replace bR := bR.below hb5 bR.lt
      clear hb5 q5
      have hki : (k : Int) ≤ (t : Int) := by omega
      have hk0 : (0 : Int) ≤ (k : Int) := by omega
      have hkc : k ≤ cu := by omega
      have hkt2 : k ≤ t := by omega
      have htc : t ≤ cu := by omega
      have hkne : ¬ cu = k := by omega
      go_wp2_with fail
      have hL := ho.reads.keep (keeps_below (Below.drew (Below.refl w5.heap.size w5)))
      replace bR : Box w5.drew _ _ _ := bR
      replace hq : Below _ _ w5.drew := Below.drew hq
      refine wp_region_held_drew (S := (fun _ => True)) (by kernel_rfl) trivial (fun hHeld => ?_)
      generalize w5.drew = wD at *
      refine takeH0 (v := ?_) (by kernel_rfl) (by kernel_rfl) (by kernel_rfl) (fun _ _ _ h => h) hHeld (by rfl) ?_ ?_
      rotate_left; · (intro w hSw; (try dsimp only at hSw); go_simp; try with_reducible rfl)
      try simp only [Act.put, List.setIfInBounds_toArray, List.set_cons_zero, List.set_cons_succ]
      refine takeH1 (v := ?_) (by kernel_rfl) (by kernel_rfl) (by kernel_rfl) (fun _ _ _ h => h) hHeld (by rfl) ?_ ?_
      rotate_left; · (intro w hSw; (try dsimp only at hSw); go_simp; try with_reducible rfl)
      try simp only [Act.put, List.setIfInBounds_toArray, List.set_cons_zero, List.set_cons_succ]
      refine takeH2 (v := ?_) (by kernel_rfl) (by kernel_rfl) (by kernel_rfl) (fun _ _ _ h => h) hHeld (by rfl) ?_ ?_
      rotate_left; · (intro w hSw; (try dsimp only at hSw); go_simp; try with_reducible rfl)
      try simp only [Act.put, List.setIfInBounds_toArray, List.set_cons_zero, List.set_cons_succ]
      refine takeH4 (v := ?_) (by kernel_rfl) (by kernel_rfl) (by kernel_rfl) (fun _ _ _ h => h) hHeld (by rfl) ?_ ?_
      rotate_left; · (intro w hSw; (try dsimp only at hSw); go_simp; try with_reducible rfl)
      try simp only [Act.put, List.setIfInBounds_toArray, List.set_cons_zero, List.set_cons_succ]
      refine takeH5 (v := ?_) (by kernel_rfl) (by kernel_rfl) (by kernel_rfl) (fun _ _ _ h => h) hHeld (by rfl) ?_ ?_
      rotate_left; · (intro w hSw; (try dsimp only at hSw); go_simp; try with_reducible rfl)
      try simp only [Act.put, List.setIfInBounds_toArray, List.set_cons_zero, List.set_cons_succ]
      refine takeH6 (v := ?_) (by kernel_rfl) (by kernel_rfl) (by kernel_rfl) (fun _ _ _ h => h) hHeld (by rfl) ?_ ?_
      rotate_left; · (intro w hSw; (try dsimp only at hSw); go_simp; try with_reducible rfl)
      try simp only [Act.put, List.setIfInBounds_toArray, List.set_cons_zero, List.set_cons_succ]
      refine callH3 (by kernel_rfl) (fun K hK => ?_)
      go_simp
      go_at_call 36
      refine (l1Copy _ _ _ ((itrL (nxN o pe pd) v 0 t).take k) _ _ (Nat.le_refl _) (hL.take (by omega)) (by omega)).mono ?_; rintro e w5 ⟨v5, rfl, ho5, hb5⟩
      rw [itrL_take hkt2] at ho5
      obtain ⟨A5, c5, rfl⟩ := ho5.form
      rw [itrL_len] at ho5 ⊢
      have bR5 := bR.below hb5 bR.lt
      have bRlt := bR.lt
      have hw5 := below_then hb5 hq.size hq
      go_wp2_with fail
      refine hK.out _ _ (trivial) (fun hHeld => ?_)
      clear hK K
      try simp only [Act.put, List.setIfInBounds_toArray, List.set_cons_zero, List.set_cons_succ]
      refine callH7 (by kernel_rfl) (fun K hK => ?_)
      go_simp
      go_at_call 36
      refine (l1Copy _ _ _ ((itrL (nxN o pe pd) v 0 t).drop k) _ _ (Nat.le_refl _) ((hL.drop (by omega)).keep (keeps_below hb5)) (by omega)).mono ?_; rintro e w6 ⟨v6, rfl, ho6, hb6⟩
      rw [itrL_drop hkt2] at ho6
      obtain ⟨A6, c6, rfl⟩ := ho6.form
      rw [itrL_len] at ho6 ⊢
      have bR6 := bR5.below hb6 bR5.lt
      have hw6 := below_then hb6 hw5.size hw5
      have m0 := bR6.cell 0; have m1 := bR6.cell 1; have h0 := bR6.hot 0; have h1 := bR6.hot 1
      simp only [List.getElem?_toArray, List.getElem?_cons_zero, List.getElem?_cons_succ] at m0 m1
      go_wp2_with fail
      refine hK.out _ _ (trivial) (fun hHeld => ?_)
      clear hK K
      try simp only [Act.put, List.setIfInBounds_toArray, List.set_cons_zero, List.set_cons_succ]
      refine takeH8 (v := ?_) (by kernel_rfl) (by kernel_rfl) (by kernel_rfl) (fun _ _ _ h => h) hHeld (by rfl) ?_ ?_
      rotate_left; · (intro w hSw; (try dsimp only at hSw); go_simp; try with_reducible rfl)
      try simp only [Act.put, List.setIfInBounds_toArray, List.set_cons_zero, List.set_cons_succ]
      refine callH9 (by kernel_rfl) (fun K hK => ?_)
      go_simp
      refine hK.out _ _ (trivial) (fun hHeld => ?_)
      clear hK K
      try simp only [Act.put, List.setIfInBounds_toArray, List.set_cons_zero, List.set_cons_succ]
      refine takeH10 (v := ?_) (by kernel_rfl) (by kernel_rfl) (by kernel_rfl) (fun _ _ _ h => h) hHeld (by rfl) ?_ ?_
      rotate_left; · (intro w hSw; (try dsimp only at hSw); go_simp; try with_reducible rfl)
      try simp only [Act.put, List.setIfInBounds_toArray, List.set_cons_zero, List.set_cons_succ]
      refine wpAnyH_done (by kernel_rfl) ?_ _
      have ch : Chg (fun y => y = w.heap.size + 1) w6 ((w6.setCell ⟨w.heap.size + 1, 0, none⟩ (.slice A5 k c5)).setCell ⟨w.heap.size + 1, 1, none⟩ (.slice A6 (t - k) c6)) := (Chg.set (w := w6) ⟨w.heap.size + 1, 0, none⟩ (.slice A5 k c5)).trans (Chg.set ⟨w.heap.size + 1, 1, none⟩ (.slice A6 (t - k) c6)) (U := fun y => y = w.heap.size + 1) (fun _ h => h) (fun _ h => h)
      have bF : Box ((w6.setCell ⟨w.heap.size + 1, 0, none⟩ (.slice A5 k c5)).setCell ⟨w.heap.size + 1, 1, none⟩ (.slice A6 (t - k) c6)) (w.heap.size + 1) 38 #[.slice A5 k c5, .slice A6 (t - k) c6] := (bR6.set_ 0 (.slice A5 k c5)).set_ 1 (.slice A6 (t - k) c6)
      have R0 := bF.cell 0; have R1 := bF.cell 1
      simp only [List.getElem?_toArray, List.getElem?_cons_zero, List.getElem?_cons_succ] at R0 R1
      have hD := hq.size; have h5s := hb5.size
      have fo5 := ((ho5.below hb6).chg ch (fun y hy e => by have := (ho5.lt y hy).1; have e2 : y = w.heap.size + 1 := e; omega)).more (lo' := w.heap.size) (by omega)
      have fo6 := (ho6.chg ch (fun y hy e => by have := (ho6.lt y hy).1; have e2 : y = w.heap.size + 1 := e; omega)).more (lo' := w.heap.size) (by omega)
      have fw := hw6.trans (ch.below hw6.size (fun y hy => by omega))
      go_wp2
      exact bodyPost_ret (v := .tuple #[.agg #[.slice A5 k c5, .slice A6 (t - k) c6], .bool true]) (by simp [results, Tryz.results12, go_sem, R0, R1]) rfl ⟨_, _, itrL (nxN o pe pd) v 0 k, itrL (nxN o pe pd) v k (t - k), rfl, ⟨k, t, hkt, rfl, rfl, HIP.out⟩, ⟨by rw [itrL_len]; omega, by rw [itrL_len]; omega⟩, fo5.more hB, fo6.more hB, fw.mono hB⟩
end Go.Proofs.YtjjaolndencplaaGreat
namespace Go.Proofs.YtjjaolndencplaaGreat
open Go.RowKit

theorem cellC {b bl off : Nat} {w w' : World} {v : Value} (hc : Chg (fun y => y = b) w w') (h : w.cell? ⟨bl, off, none⟩ = some v) (hne : bl ≠ b) : w'.cell? ⟨bl, off, none⟩ = some v := by
  have hl := World.block_lt_of_cell? w _ h
  exact (World.cell?_of_block (w := w) (hc.block bl (by simpa using hl) (fun e => hne e))).trans h
/-- a full plan by dice -/
def PlanBy (w0 w : World) (b : Nat) (o : List Int) (n : List (List Int)) (who : Int) (e : Ending) (w' : World) : Prop :=
  ∃ v p, e = .returned v ∧ fullP o n who p ∧ OI 2 w' w.heap.size v p ∧ DiceAt w0 w' b ∧ Chg (fun y => y = b) w w'
/-- a full plan as far as vertex k -/
def planUp (o : List Int) (n : List (List Int)) (who : Int) (p : List Int) (k : Nat) : Prop := p.length = k ∧ ∀ v, v < k → (gi o v = who → hasL (gl n v) (gi p v) = true) ∧ (¬ gi o v = who → gi p v = -1)
theorem planUp_succ {o : List Int} {n : List (List Int)} {who : Int} {p : List Int} {k : Nat} {x : Int} (h : planUp o n who p k) (h1 : gi o k = who → hasL (gl n k) x = true) (h2 : ¬ gi o k = who → x = -1) : planUp o n who (p ++ [x]) (k + 1) := by
  refine ⟨by rw [List.length_append, h.1]; rfl, fun v hv => ?_⟩
  by_cases e : v < k
  · rw [gi_app_lt (by rw [h.1]; exact e)]; exact h.2 v e
  · obtain rfl : v = k := by omega
    rw [show gi (p ++ [x]) v = x by rw [← h.1]; exact gi_app_eq]
    exact ⟨h1, h2⟩

theorem OArn.cells {w : World} {lo : Nat} {s0 s1 : Value} {z : ArD} (h : OArn w lo s0 s1 z) {k : Nat} (hk : k < z.2.length) (hn : 0 < (gl z.2 k).length) :
    ∃ c1 bn br cn, s1 = .slice (some ⟨bn, 0, none⟩) z.2.length c1 ∧ lo ≤ bn ∧ w.cell? ⟨bn, k, none⟩ = some (.slice (some ⟨br, 0, none⟩) (gl z.2 k).length cn) ∧ lo ≤ br ∧ (∀ j, j < (gl z.2 k).length → w.cell? ⟨br, j, none⟩ = some (.int .i64 (gi (gl z.2 k) j))) ∧ (gl z.2 k).length ≤ cn ∧ cn ≤ 9223372036854775807 := by
  obtain ⟨cs, ⟨h0, h1, h2⟩, hd⟩ := h
  have hl := row_len h1
  obtain ⟨br, cn, e⟩ := (h2 k (by omega)).form2 hn
  have hok := h2 k (by omega)
  have h1' := h1
  rcases h1.2 with ⟨_, h3⟩ | ⟨g, cap, cur, rfl, _⟩
  · omega
  · have hc := row_cell h1' (j := k) (by omega)
    rw [e] at hc hok
    exact ⟨cap, g, br, cn, rfl, (World.ownsRow.lt h1' g rfl).1, hc, (hok.lt br rfl).1, fun j hj => hok.cellAt hj, hok.reads.cap, hok.reads.top⟩

set_option maxRecDepth 100000 in
set_option maxHeartbeats 1600000 in
theorem w6Plan (s0 s1 : Value) (z : ArD) (who : Int) (w0 w : World) (b lo : Nat) (hd : DiceAt w0 w b) (ho : OArn w lo s0 s1 z) (hbl : b < lo) (hf : fineAr z.1 z.2) :
    Calls Tryz.prog 13 #[.pointer (some ⟨b, 0, none⟩), .agg #[s0, s1], .int .i64 who] w (PlanBy w0 w b z.1 z.2 who) := by
  have HF := Lib.hid hf
  have hz8 : z.1.length ≤ 256 := hf.2.1
  have HZ := Lib.hid hf.2.2.1
  have hz2 : z.2.length ≤ 256 := by have := HZ.out; omega
  have hdl := hd.lt
  have hba : Below w.heap.size w ((w.alloc (.cells #[s0, s1] 30)).alloc (.cells #[] 2)) := below_alloc (Nat.le_refl _) (below_alloc (Nat.le_refl _) (Below.refl _ _))
  have bx := (Box.new w 30 #[s0, s1]).alloc (.cells #[] 2)
  have hem := OI.empty (E := 2) (w := w.alloc (.cells #[s0, s1] 30)) (B := w.heap.size + 1) (by simp)
  have hcc := (Chg.refl (fun y => y = b) w).then_below hba (Nat.le_refl _)
  have hd' := hd.on hba
  obtain ⟨A0, c0, A1, c1, rfl, rfl⟩ := ho.form
  clear hf hd hba
  have ho0 := ho
  clear ho
  go_enter Tryz.func13, Tryz.ntmps13
  go_wp2
  go_loopw [7, 8, 9] (fun u i _ wr => ∃ (k : Nat) (p : List Int), k ≤ z.1.length ∧ i = .int .i64 k ∧ planUp z.1 z.2 who p k ∧ OI 2 wr (w.heap.size + 1) u p ∧ Box wr w.heap.size 30 #[.slice A0 z.1.length c0, .slice A1 z.2.length c1] ∧ DiceAt w0 wr b ∧ Chg (fun y => y = b) w wr) (fun _ i _ _ => z.1.length - (intOf i).toNat)
  case atStart => exact ⟨0, [], Nat.zero_le _, rfl, ⟨rfl, fun v hv => absurd hv (by omega)⟩, by simpa using hem, bx, hd', hcc⟩
  case round =>
    clear hem bx hd' hcc
    obtain ⟨k, p, hk, rfl, hpu, hop, bx, hdr, hc⟩ := hrel
    have ho := ho0.chg hc (fun y hy => by have h3 : y = b := hy; omega)
    have HP := Lib.hid hpu
    have hpl : p.length ≤ 4194304 := by rw [hpu.1]; omega
    clear hpu
    have q0 := bx.d0; have q1 := bx.d1
    have hbx := bx.lt
    have hsz : w.heap.size + 1 ≤ wr.heap.size := by omega
    by_cases hkl : k < z.1.length
    · have hkl2 : k < z.2.length := by rw [HZ.out]; exact hkl
      have hrow := HF.out.2.2.2 k hkl
      have hnn1 : 1 ≤ (gl z.2 k).length := hrow.2.1.1
      have hnn2 : (gl z.2 k).length ≤ 16 := hrow.2.1.2
      obtain ⟨c1', bn, br, cn, hA1, hbn, kN, hbr, kR, hcn1, hcn2⟩ := ho.cells hkl2 (by omega)
      injection hA1 with hA1 _ hc1'
      subst hA1; subst hc1'
      obtain ⟨bo, oo, rfl, kO⟩ := ho.reads.ri.at_ hkl
      have hki : (k : Int) < (z.1.length : Int) := by omega
      have hki1 : (k : Int) < (z.2.length : Int) := by omega
      have hk0 : (0 : Int) ≤ (k : Int) := by omega
      have HR := Lib.hid hrow
      clear hrow
      by_cases hown : gi z.1 k = who
      · have e1 : (gi z.1 k == who) = true := by simp [hown]
        have HO := Lib.hid hown
        obtain ⟨nn, hnn⟩ : ∃ nn, nn = (gl z.2 k).length := ⟨_, rfl⟩
        rw [← hnn] at kN kR hnn1 hnn2 hcn1
        have HNN := Lib.hid hnn
        clear hown hnn
        go_wp2_with fail
        refine wp_region_held_drew (S := (fun w' => w'.cell? ⟨w.heap.size, 1, none⟩ = some (.slice (some ⟨bn, 0, none⟩) z.2.length c1) ∧ w'.cell? ⟨bn, k, none⟩ = some (.slice (some ⟨br, 0, none⟩) nn cn))) (by kernel_rfl) ⟨q1, kN⟩ (fun hHeld => ?_)
        have hdD := hdr.on (Below.drew (Below.refl wr.heap.size wr))
        have bxD : Box wr.drew _ _ _ := bx
        have hcD : Chg (fun y => y = b) w wr.drew := hc.drewN 1
        have hopD := hop.drew
        replace q1 : wr.drew.cell? _ = some _ := q1
        replace kN : wr.drew.cell? _ = some _ := kN
        replace kR : ∀ j, j < nn → wr.drew.cell? ⟨br, j, none⟩ = some (.int .i64 (gi (gl z.2 k) j)) := kR
        clear hdr bx hc hop q0 kO
        generalize wr.drew = wD at *
        refine takeH0 (v := ?_) (by kernel_rfl) (by kernel_rfl) (by kernel_rfl) (fun _ _ _ h => h) hHeld (by rfl) ?_ ?_
        rotate_left; · (intro w hSw; (try dsimp only at hSw); go_simp; try with_reducible rfl)
        try simp only [Act.put, List.setIfInBounds_toArray, List.set_cons_zero, List.set_cons_succ]
        refine takeH1 (v := ?_) (by kernel_rfl) (by kernel_rfl) (by kernel_rfl) (fun _ _ _ h => h) hHeld (by rfl) ?_ ?_
        rotate_left; · (intro w hSw; (try dsimp only at hSw); go_simp; try with_reducible rfl)
        try simp only [Act.put, List.setIfInBounds_toArray, List.set_cons_zero, List.set_cons_succ]
        refine takeH2 (v := ?_) (by kernel_rfl) (by kernel_rfl) (by kernel_rfl) (fun _ _ _ h => h) hHeld (by rfl) ?_ ?_
        rotate_left; · (intro w hSw; (try dsimp only at hSw); go_simp; try with_reducible rfl)
        try simp only [Act.put, List.setIfInBounds_toArray, List.set_cons_zero, List.set_cons_succ]
        refine takeH3 (v := ?_) (by kernel_rfl) (by kernel_rfl) (by kernel_rfl) (fun _ _ _ h => h) hHeld (by rfl) ?_ ?_
        rotate_left; · (intro w hSw; (try dsimp only at hSw); go_simp; try with_reducible rfl)
        try simp only [Act.put, List.setIfInBounds_toArray, List.set_cons_zero, List.set_cons_succ]
        refine takeH4 (v := ?_) (by kernel_rfl) (by kernel_rfl) (by kernel_rfl) (fun _ _ _ h => h) hHeld (by rfl) ?_ ?_
        rotate_left; · (intro w hSw; (try dsimp only at hSw); go_simp; try with_reducible rfl)
        try simp only [Act.put, List.setIfInBounds_toArray, List.set_cons_zero, List.set_cons_succ]
        refine takeH5 (v := ?_) (by kernel_rfl) (by kernel_rfl) (by kernel_rfl) (fun _ _ _ h => h) hHeld (by rfl) ?_ ?_
        rotate_left; · (intro w hSw; (try dsimp only at hSw); go_simp; try with_reducible rfl)
        try simp only [Act.put, List.setIfInBounds_toArray, List.set_cons_zero, List.set_cons_succ]
        refine takeH6 (v := ?_) (by kernel_rfl) (by kernel_rfl) (by kernel_rfl) (fun _ _ _ h => h) hHeld (by rfl) ?_ ?_
        rotate_left; · (intro w hSw; (try dsimp only at hSw); go_simp; try with_reducible rfl)
        try simp only [Act.put, List.setIfInBounds_toArray, List.set_cons_zero, List.set_cons_succ]
        refine takeH7 (v := ?_) (by kernel_rfl) (by kernel_rfl) (by kernel_rfl) (fun _ _ _ h => h) hHeld (by rfl) ?_ ?_
        rotate_left; · (intro w hSw; (try dsimp only at hSw); go_simp; try with_reducible rfl)
        try simp only [Act.put, List.setIfInBounds_toArray, List.set_cons_zero, List.set_cons_succ]
        refine takeH8 (v := ?_) (by kernel_rfl) (by kernel_rfl) (by kernel_rfl) (fun _ _ _ h => h) hHeld (by rfl) ?_ ?_
        rotate_left; · (intro w hSw; (try dsimp only at hSw); go_simp; try with_reducible rfl)
        try simp only [Act.put, List.setIfInBounds_toArray, List.set_cons_zero, List.set_cons_succ]
        refine takeH9 (v := ?_) (by kernel_rfl) (by kernel_rfl) (by kernel_rfl) (fun _ _ _ h => h) hHeld (by rfl) ?_ ?_
        rotate_left; · (intro w hSw; (try dsimp only at hSw); go_simp; try with_reducible rfl)
        try simp only [Act.put, List.setIfInBounds_toArray, List.set_cons_zero, List.set_cons_succ]
        refine takeH10 (v := ?_) (by kernel_rfl) (by kernel_rfl) (by kernel_rfl) (fun _ _ _ h => h) hHeld (by rfl) ?_ ?_
        rotate_left; · (intro w hSw; (try dsimp only at hSw); go_simp; try with_reducible rfl)
        try simp only [Act.put, List.setIfInBounds_toArray, List.set_cons_zero, List.set_cons_succ]
        refine takeH11 (v := ?_) (by kernel_rfl) (by kernel_rfl) (by kernel_rfl) (fun _ _ _ h => h) hHeld (by rfl) ?_ ?_
        rotate_left; · (intro w hSw; (try dsimp only at hSw); go_simp; try with_reducible rfl)
        try simp only [Act.put, List.setIfInBounds_toArray, List.set_cons_zero, List.set_cons_succ]
        refine callH12 (by kernel_rfl) (fun K hK => ?_)
        go_simp
        go_at_call 11
        refine (below w0 _ b nn hdD (by omega)).mono ?_; rintro e w4 ⟨x, rfl, hx4, hd4, hc4⟩
        obtain ⟨x', rfl⟩ := Int.eq_ofNat_of_zero_le hx4.1
        have hx4l : x' < nn := by omega
        have hx4i : (x' : Int) < (nn : Int) := by omega
        have hx40 : (0 : Int) ≤ (x' : Int) := by omega
        have bx4 : Box w4 w.heap.size 30 #[.slice (some ⟨bo, oo, none⟩) z.1.length c0, .slice (some ⟨bn, 0, none⟩) z.2.length c1] := (hc4.block _ bxD.lt (fun e => by have h3 : w.heap.size = b := e; omega)).trans bxD
        have hop4 := hopD.chg hc4 (fun y hy e => by have := (hopD.lt y hy).1; have h3 : y = b := e; omega)
        have q1 := bx4.d1
        have kN := cellC hc4 kN (by omega)
        have kX : w4.cell? ⟨br, x', none⟩ = some (.int .i64 (gi (gl z.2 k) x')) := cellC hc4 (kR x' hx4l) (by omega)
        have hcc4 := chg_then hcD hc4
        have hsz4 := hcc4.size
        go_wp2_with fail
        refine hK.out _ _ (⟨q1, kN⟩) (fun hHeld => ?_)
        clear hK K
        try simp only [Act.put, List.setIfInBounds_toArray, List.set_cons_zero, List.set_cons_succ]
        refine takeH13 (v := ?_) (by kernel_rfl) (by kernel_rfl) (by kernel_rfl) (fun _ _ _ h => h) hHeld (by rfl) ?_ ?_
        rotate_left; · (intro w hSw; (try dsimp only at hSw); go_simp; try with_reducible rfl)
        try simp only [Act.put, List.setIfInBounds_toArray, List.set_cons_zero, List.set_cons_succ]
        refine callH14 (by kernel_rfl) (fun K hK => ?_)
        go_simp
        refine hK.out _ _ (⟨q1, kN⟩) (fun hHeld => ?_)
        clear hK K
        try simp only [Act.put, List.setIfInBounds_toArray, List.set_cons_zero, List.set_cons_succ]
        refine takeH15 (v := ?_) (by kernel_rfl) (by kernel_rfl) (by kernel_rfl) (fun _ _ _ h => h) hHeld (by rfl) ?_ ?_
        rotate_left; · (intro w hSw; (try dsimp only at hSw); go_simp; try with_reducible rfl)
        try simp only [Act.put, List.setIfInBounds_toArray, List.set_cons_zero, List.set_cons_succ]
        refine wpAnyH_done (by kernel_rfl) ?_ _
        have HXX := Lib.hid (show hasL (gl z.2 k) (gi (gl z.2 k) x') = true from decide_eq_true (gi_mem (by rw [← HNN.out]; exact hx4l)))
        have hsz5 : w.heap.size + 1 ≤ w4.heap.size := by have := bx4.lt; omega
        go_wp2_with (at_builtin; refine wpList_pushI rfl (.tmp 40) (.tmp 42) rfl _ (w.heap.size + 1) u7 p (by rfl) hop4 _ (by rfl) hpl hsz5 ?_; intro v2 w2 ho2 hb2 hc2 hat2)
        go_wp2
        go_roundw
        case rel => exact ⟨k + 1, p ++ [gi (gl z.2 k) x'], by omega, by go_num, planUp_succ HP.out (fun _ => HXX.out) (fun e => absurd HO.out e), ho2, bx4.below hb2 (by omega), hd4.chg hc2 (fun y hy => by have := (hop4.lt y hy).1; omega), hcc4.push hc2 (fun y hy => .inr (by have := (hop4.lt y hy).1; omega))⟩
        case measure => simp [intOf]; omega
      · have e1 : (gi z.1 k == who) = false := by simp [hown]
        have HO := Lib.hid hown
        clear hown
        go_wp2_with (at_builtin; refine wpList_pushI rfl (.tmp 40) (.tmp 42) rfl _ (w.heap.size + 1) u7 p (by rfl) hop _ (by rfl) hpl hsz ?_; intro v2 w2 ho2 hb2 hc2 hat2)
        go_wp2
        go_roundw
        case rel => exact ⟨k + 1, p ++ [-1], by omega, by go_num, planUp_succ HP.out (fun e => absurd e HO.out) (fun _ => rfl), ho2, bx.below hb2 (by omega), hdr.chg hc2 (fun y hy => by have := (hop.lt y hy).1; omega), hc.push hc2 (fun y hy => .inr (by have := (hop.lt y hy).1; omega))⟩
        case measure => simp [intOf]; omega
    · obtain rfl : k = z.1.length := by omega
      go_wp2
      go_ret
      exact ⟨_, p, rfl, ⟨HP.out.1, HP.out.2⟩, hop.more (by omega), hdr, hc⟩
end Go.Proofs.YtjjaolndencplaaGreat
namespace Go.Proofs.YtjjaolndencplaaGreat
open Go.RowKit

end Go.Proofs.YtjjaolndencplaaGreat
namespace Go.Proofs.YtjjaolndencplaaGreat
open Go.RowKit Go.ChangeShapes Go.WideShapes Go.ChangeAt Go.Deep

section
variable {H : Type} {enc : TypeId × Value → H} {P : Program} {w : World} {base : Nat} {spare : Nat → Bool} {held : Bool}
end
end Go.Proofs.YtjjaolndencplaaGreat
namespace Go.Proofs.YtjjaolndencplaaGreat
open Go.RowKit Go.ChangeShapes Go.WideShapes Go.ChangeAt Go.Deep

theorem ry_of_trod {H : Type} {enc : TypeId × Value → H} {P : Program} {w : World} {base : Nat} {spare : Nat → Bool} {held : Bool} {t e : TypeId} {fuel : Nat} {c : Value} {y : DataW H × List MemPlace}
    (ht : P.underlying t = some (.slice e)) (he : P.underlying e = some (.int .u8)) (hc : P.cellsOf e = 1) (hsp : ∀ b, spare b = true)
    (h : DataW.trod enc P w base spare held fuel t [c] = some y) : ∃ A n k xs, c = .slice A n k ∧ RY w A n k xs := by
  rcases open_ints ht he hc h with ⟨hcs, _⟩ | ⟨x, l, k, zs, hcs, _, hl, hm, hz, _, hcell, hwz⟩
  · injection hcs with h1 _
    exact ⟨none, 0, 0, [], h1, RY.of_nil⟩
  · injection hcs with h1 _
    refine ⟨some x, l, k, zs.take l, h1, RY.of_cells hl hm (by rw [hz, hsp]; rfl) hcell fun z hz => ?_⟩
    have h := hwz z hz
    unfold Lit.wf at h
    rw [Bool.and_eq_true] at h
    have h2 := of_decide_eq_true h.1
    have h3 := of_decide_eq_true h.2
    have e1 : IntKind.u8.min = 0 := rfl
    have e2 : IntKind.u8.max = 255 := rfl
    omega

set_option maxRecDepth 100000 in
theorem big (A : Option Addr) (n c : Nat) (l : List Int) (w : World) (hy : RY w A n c l) :
    Calls Tryz.prog 4 #[.slice A n c] w fun e w' => e = .returned (.bool (decide (4096 < n))) ∧ Qt w w' := by
  have b1 := hy.cap; have b2 := hy.top
  by_cases hb : 4096 < n
  · have E := Lib.hid (show decide (4096 < n) = true from decide_eq_true hb)
    go_enter Tryz.func4, Tryz.ntmps4
    go_wp2
    go_ret
    exact ⟨ret_b (by rw [E.out]; exact decide_eq_true (by omega)), Qt.refl _⟩
  · have E := Lib.hid (show decide (4096 < n) = false from decide_eq_false hb)
    go_enter Tryz.func4, Tryz.ntmps4
    go_wp2
    go_ret
    exact ⟨ret_b (by rw [E.out]; exact decide_eq_false (by omega)), Qt.refl _⟩
end Go.Proofs.YtjjaolndencplaaGreat
namespace Go.Proofs.YtjjaolndencplaaGreat
open Go.RowKit

abbrev PairD := List Int × List Int
def gp (ps : List PairD) (i : Nat) : PairD := ps.getD i ([], [])
theorem gp_get {xs : List PairD} {i : Nat} (h : i < xs.length) : gp xs i = xs[i] := by simp [gp, h]
theorem gp_mem {xs : List PairD} {i : Nat} (h : i < xs.length) : gp xs i ∈ xs := by rw [gp_get h]; exact List.getElem_mem h
theorem mem_gp {xs : List PairD} {x : PairD} (h : x ∈ xs) : ∃ i, i < xs.length ∧ gp xs i = x := by
  obtain ⟨i, hi, rfl⟩ := List.getElem_of_mem h
  exact ⟨i, hi, gp_get hi⟩
/-- a slice of pairs that reads as a list -/
def RPS (w : World) (A : Option Addr) (n c : Nat) (ps : List PairD) : Prop :=
  ps.length = n ∧ (n ≤ c ∧ c ≤ 9223372036854775807) ∧ ∀ i, i < n → ∃ b off A1 n1 c1 A2 n2 c2, A = some ⟨b, off, none⟩ ∧
    w.cell? ⟨b, off + i * 2, none⟩ = some (.slice A1 n1 c1) ∧ w.cell? ⟨b, off + i * 2 + 1, none⟩ = some (.slice A2 n2 c2) ∧ RI w A1 n1 c1 (gp ps i).1 ∧ RI w A2 n2 c2 (gp ps i).2
section
variable {w w' : World} {A : Option Addr} {n c : Nat} {ps : List PairD}
theorem RPS.len (h : RPS w A n c ps) : ps.length = n := h.1
theorem RPS.cap (h : RPS w A n c ps) : n ≤ c := h.2.1.1
theorem RPS.top (h : RPS w A n c ps) : c ≤ 9223372036854775807 := h.2.1.2
theorem RPS.at_ (h : RPS w A n c ps) {i : Nat} (hi : i < n) : ∃ b off A1 n1 c1 A2 n2 c2, A = some ⟨b, off, none⟩ ∧
    w.cell? ⟨b, off + i * 2, none⟩ = some (.slice A1 n1 c1) ∧ w.cell? ⟨b, off + i * 2 + 1, none⟩ = some (.slice A2 n2 c2) ∧ RI w A1 n1 c1 (gp ps i).1 ∧ RI w A2 n2 c2 (gp ps i).2 := h.2.2 i hi
theorem RPS.keep (h : RPS w A n c ps) (k : Keeps w w') : RPS w' A n c ps :=
  ⟨h.1, h.2.1, fun i hi => by
    obtain ⟨b, off, A1, n1, c1, A2, n2, c2, e, hc1, hc2, h1, h2⟩ := h.2.2 i hi
    exact ⟨b, off, A1, n1, c1, A2, n2, c2, e, k _ _ hc1, k _ _ hc2, h1.keep k, h2.keep k⟩⟩
end
noncomputable def pairsB (ps : List PairD) (n : Int) : Bool := decide (ps.length ≤ 4) && ps.all (fun p => setB p.1 n && setB p.2 n)
theorem pairsB_of {ps : List PairD} {n : Int} {m : Nat} (hl : ps.length = m) (hm : m ≤ 4) (h : ∀ i, i < m → (setB (gp ps i).1 n && setB (gp ps i).2 n) = true) : pairsB ps n = true := by
  unfold pairsB
  rw [Bool.and_eq_true, List.all_eq_true]
  refine ⟨decide_eq_true (by omega), fun p hp => ?_⟩
  obtain ⟨i, hi, rfl⟩ := mem_gp hp
  exact h i (by omega)
theorem pairsB_long {ps : List PairD} {n : Int} {m : Nat} (hl : ps.length = m) (hm : ¬ m ≤ 4) : pairsB ps n = false := by
  unfold pairsB
  rw [decide_eq_false (by omega)]
  rfl
theorem pairsB_no {ps : List PairD} {n : Int} {m k : Nat} (hl : ps.length = m) (hk : k < m) (h : (setB (gp ps k).1 n && setB (gp ps k).2 n) = false) : pairsB ps n = false := by
  unfold pairsB
  rw [Bool.and_eq_false_iff]
  right
  rw [List.all_eq_false]
  exact ⟨gp ps k, gp_mem (by omega), by rw [h]; simp⟩

set_option maxHeartbeats 400000 in
theorem specPairsOk (A : Option Addr) (m c : Nat) (ps : List PairD) (n : Int) (w : World) (ha : RPS w A m c ps) :
    Calls Tryz.prog 38 #[.slice A m c, .int .i64 n] w fun e w' => e = .returned (.bool (inR n 0 256 && pairsB ps n)) ∧ Qt w w' := by
  have b1 := ha.cap; have b2 := ha.top
  by_cases h1 : inR n 0 256 = true
  · have E0 := Lib.hid (show (inR n 0 256 && pairsB ps n) = pairsB ps n by rw [h1]; rfl)
    by_cases h2 : m ≤ 4
    · go_enter Tryz.func38, Tryz.ntmps38
      go_wp2_with (go_at_call 53; refine (l1In _ _ _ _).mono ?_; rintro e w' ⟨rfl, q, rfl⟩)
      go_loopw [5] (fun i wr => ∃ k : Nat, k ≤ m ∧ i = .int .i64 k ∧ (∀ j, j < k → (setB (gp ps j).1 n && setB (gp ps j).2 n) = true) ∧ ∃ q, wr = w.drewN q) (fun i _ => m - (intOf i).toNat)
      case atStart => exact ⟨0, Nat.zero_le _, rfl, by omega, _, rfl⟩
      case round =>
        obtain ⟨k, hk, rfl, hall, q, rfl⟩ := hrel
        have HA := Lib.hid hall
        clear hall
        by_cases hlt : k < m
        · obtain ⟨b, off, A1, n1, c1, A2, n2, c2, rfl, hc1, hc2, r1, r2⟩ := ha.at_ hlt
          by_cases h3 : setB (gp ps k).1 n = true
          · by_cases h4 : setB (gp ps k).2 n = true
            · have H := Lib.hid (show (setB (gp ps k).1 n && setB (gp ps k).2 n) = true by rw [h3, h4]; rfl)
              go_wp2_with fail
              refine (SetOk _ _ _ _ _ _ (r1.keep (Qt.keeps ⟨_, rfl⟩))).mono ?_; rintro e w' ⟨rfl, q1, rfl⟩
              go_wp2_with fail
              refine (SetOk _ _ _ _ _ _ (r2.keep (Qt.keeps ⟨_, rfl⟩))).mono ?_; rintro e w' ⟨rfl, q2, rfl⟩
              go_wp2
              go_roundw
              case rel => exact ⟨k + 1, by omega, by go_num, all_succ HA.out H.out, _, rfl⟩
              case measure => simp [intOf]; omega
            · replace h4 : setB (gp ps k).2 n = false := by simpa using h4
              have E := Lib.hid (pairsB_no ha.len hlt (show (setB (gp ps k).1 n && setB (gp ps k).2 n) = false by rw [h3, h4]; rfl))
              go_wp2_with fail
              refine (SetOk _ _ _ _ _ _ (r1.keep (Qt.keeps ⟨_, rfl⟩))).mono ?_; rintro e w' ⟨rfl, q1, rfl⟩
              go_wp2_with fail
              refine (SetOk _ _ _ _ _ _ (r2.keep (Qt.keeps ⟨_, rfl⟩))).mono ?_; rintro e w' ⟨rfl, q2, rfl⟩
              go_wp2
              go_ret
              exact ⟨ret_b (by rw [E0.out, E.out]), _, rfl⟩
          · replace h3 : setB (gp ps k).1 n = false := by simpa using h3
            have E := Lib.hid (pairsB_no ha.len hlt (show (setB (gp ps k).1 n && setB (gp ps k).2 n) = false by rw [h3]; rfl))
            go_wp2_with fail
            refine (SetOk _ _ _ _ _ _ (r1.keep (Qt.keeps ⟨_, rfl⟩))).mono ?_; rintro e w' ⟨rfl, q1, rfl⟩
            go_wp2
            go_ret
            exact ⟨ret_b (by rw [E0.out, E.out]), _, rfl⟩
        · obtain rfl : k = m := by omega
          have E := Lib.hid (pairsB_of ha.len h2 HA.out)
          go_wp2
          go_ret
          exact ⟨ret_b (by rw [E0.out, E.out]), _, rfl⟩
    · have E := Lib.hid (pairsB_long (n := n) ha.len h2)
      go_enter Tryz.func38, Tryz.ntmps38
      go_wp2_with (go_at_call 53; refine (l1In _ _ _ _).mono ?_; rintro e w' ⟨rfl, q, rfl⟩)
      go_ret
      exact ⟨ret_b (by rw [E0.out, E.out]), _, rfl⟩
  · replace h1 : inR n 0 256 = false := by simpa using h1
    have E := Lib.hid (show (inR n 0 256 && pairsB ps n) = false by rw [h1]; rfl)
    go_enter Tryz.func38, Tryz.ntmps38
    go_wp2_with (go_at_call 53; refine (l1In _ _ _ _).mono ?_; rintro e w' ⟨rfl, q, rfl⟩)
    go_ret
    exact ⟨ret_b E.out.symm, _, rfl⟩

set_option maxHeartbeats 400000 in
theorem arePairs (A : Option Addr) (m c : Nat) (ps : List PairD) (n : Int) (w : World) (B : Nat) (hB : B ≤ w.heap.size) (ha : RPS w A m c ps) :
    Calls Tryz.prog 21 #[.slice A m c, .int .i64 n] w fun e w' => e = .returned (.bool (pairsB ps n)) ∧ Below B w w' := by
  have b1 := ha.cap; have b2 := ha.top
  go_enter Tryz.func21, Tryz.ntmps21
  go_wp2
  go_loopw [9] (fun i wr => ∃ k : Nat, k ≤ m ∧ i = .int .i64 k ∧ (∀ j, j < k → (setB (gp ps j).1 n && setB (gp ps j).2 n) = true) ∧ Below w.heap.size w wr) (fun i _ => m - (intOf i).toNat)
  case atStart => exact ⟨0, Nat.zero_le _, rfl, by omega, Below.refl _ _⟩
  case round =>
    obtain ⟨k, hk, rfl, hall, hbr⟩ := hrel
    have HA := Lib.hid hall
    clear hall
    by_cases hlt : k < m
    · obtain ⟨b, off, A1, n1, c1, A2, n2, c2, rfl, hc1, hc2, r1, r2⟩ := (ha.keep (keeps_below hbr)).at_ hlt
      replace r1 := r1.keep (keeps_alloc wr (.cells #[.slice A1 n1 c1, .slice A2 n2 c2] 50))
      replace r2 := r2.keep (keeps_alloc wr (.cells #[.slice A1 n1 c1, .slice A2 n2 c2] 50))
      have hba : Below w.heap.size w (wr.alloc (.cells #[.slice A1 n1 c1, .slice A2 n2 c2] 50)) := below_alloc (Nat.le_refl _) hbr
      by_cases h3 : setB (gp ps k).1 n = true
      · by_cases h4 : setB (gp ps k).2 n = true
        · have H := Lib.hid (show (setB (gp ps k).1 n && setB (gp ps k).2 n) = true by rw [h3, h4]; rfl)
          go_wp2_with fail
          refine (isSet _ _ _ _ _ _ r1).mono ?_; rintro e w' ⟨rfl, q1, rfl⟩
          go_wp2_with fail
          refine (isSet _ _ _ _ _ _ (r2.keep (Qt.keeps ⟨_, rfl⟩))).mono ?_; rintro e w' ⟨rfl, q2, rfl⟩
          go_wp2
          go_roundw
          case rel => exact ⟨k + 1, by omega, by go_num, all_succ HA.out H.out, below_drewN hba _⟩
          case measure => simp [intOf]; omega
        · replace h4 : setB (gp ps k).2 n = false := by simpa using h4
          have E := Lib.hid (pairsB_no ha.len hlt (show (setB (gp ps k).1 n && setB (gp ps k).2 n) = false by rw [h3, h4]; rfl))
          go_wp2_with fail
          refine (isSet _ _ _ _ _ _ r1).mono ?_; rintro e w' ⟨rfl, q1, rfl⟩
          go_wp2_with fail
          refine (isSet _ _ _ _ _ _ (r2.keep (Qt.keeps ⟨_, rfl⟩))).mono ?_; rintro e w' ⟨rfl, q2, rfl⟩
          go_wp2
          go_ret
          exact ⟨ret_b E.out.symm, (below_drewN hba _).mono hB⟩
      · replace h3 : setB (gp ps k).1 n = false := by simpa using h3
        have E := Lib.hid (pairsB_no ha.len hlt (show (setB (gp ps k).1 n && setB (gp ps k).2 n) = false by rw [h3]; rfl))
        go_wp2_with fail
        refine (isSet _ _ _ _ _ _ r1).mono ?_; rintro e w' ⟨rfl, q1, rfl⟩
        go_wp2
        go_ret
        exact ⟨ret_b E.out.symm, (below_drewN hba _).mono hB⟩
    · obtain rfl : k = m := by omega
      by_cases h2 : k ≤ 4
      · have E := Lib.hid (pairsB_of ha.len h2 HA.out)
        go_wp2
        go_ret
        exact ⟨ret_b (by rw [E.out]; simp; omega), hbr.mono hB⟩
      · have E := Lib.hid (pairsB_long (n := n) ha.len h2)
        go_wp2
        go_ret
        exact ⟨ret_b (by rw [E.out]; simp; omega), hbr.mono hB⟩

end Go.Proofs.YtjjaolndencplaaGreat
namespace Go.Proofs.YtjjaolndencplaaGreat
open Go.RowKit

end Go.Proofs.YtjjaolndencplaaGreat
namespace Go.Proofs.YtjjaolndencplaaGreat
open Go.RowKit

/-- the j-th slice of a list of pairs laid flat -/
def fl (ps : List PairD) (j : Nat) : List Int := if j % 2 = 0 then (gp ps (j / 2)).1 else (gp ps (j / 2)).2
theorem fl_even (ps : List PairD) (k : Nat) : fl ps (k * 2) = (gp ps k).1 := by unfold fl; rw [if_pos (by omega), show k * 2 / 2 = k from by omega]
theorem fl_odd (ps : List PairD) (k : Nat) : fl ps (k * 2 + 1) = (gp ps k).2 := by unfold fl; rw [if_neg (by omega), show (k * 2 + 1) / 2 = k from by omega]
/-- a slice of pairs of the call's own: the row, and the rows in it, none shared -/
def OPS (w : World) (lo : Nat) (v : Value) (ps : List PairD) : Prop :=
  ∃ cs, w.ownsRow lo 50 2 v ps.length cs ∧ OL 2 w lo cs (fl ps) ∧ Dis cs
theorem OPS.below {w w' : World} {lo : Nat} {v : Value} {ps : List PairD} (h : OPS w lo v ps) (hb : Below w.heap.size w w') : OPS w' lo v ps := by
  obtain ⟨cs, h1, h2, h3⟩ := h
  exact ⟨cs, row_below h1 hb, h2.below hb, h3⟩
theorem OPS.form {w : World} {lo : Nat} {v : Value} {ps : List PairD} (h : OPS w lo v ps) : ∃ A c, v = .slice A ps.length c := by
  obtain ⟨cs, h1, _⟩ := h
  obtain ⟨A, c, h2, _⟩ := row_form h1
  exact ⟨A, c, h2⟩
theorem OPS.reads {w : World} {lo n c : Nat} {A : Option Addr} {ps : List PairD} (h : OPS w lo (.slice A n c) ps) : RPS w A n c ps := by
  obtain ⟨cs, h1, h2, _⟩ := h
  obtain ⟨A', c', e, hc1, hc2, hg⟩ := row_form h1
  injection e with e1 e2 e3
  subst e1; subst e2; subst e3
  refine ⟨rfl, ⟨hc1, hc2⟩, fun i hi => ?_⟩
  obtain ⟨g, rfl⟩ := hg (by omega)
  have hl := row_len h1
  have o1 := h2 (i * 2) (by omega)
  have o2 := h2 (i * 2 + 1) (by omega)
  have k1 := row_cell h1 (j := i * 2) (by omega)
  have k2 := row_cell h1 (j := i * 2 + 1) (by omega)
  rw [fl_even] at o1
  rw [fl_odd] at o2
  obtain ⟨A1, c1, e1⟩ := o1.form
  obtain ⟨A2, c2, e2⟩ := o2.form
  rw [e1] at o1 k1
  rw [e2] at o2 k2
  exact ⟨g, 0, A1, _, c1, A2, _, c2, rfl, by simpa using k1, by simpa using k2, o1.reads, o2.reads⟩

theorem infoPair : (Tryz.prog.info? 50).map (fun i => (i.zero, i.size, i.bytes)) = some (some (.agg #[.slice none 0 0, .slice none 0 0]), 2, 48) := by kernel_rfl
end Go.Proofs.YtjjaolndencplaaGreat
namespace Go.Proofs.YtjjaolndencplaaGreat
open Go.RowKit

/-- a row of rows, those ahead of m turned from G to F: one more is turned -/
theorem OL.turn {E : TypeId} {w w2 : World} {lo m : Nat} {cs : List Value} {F G : Nat → List Int} {u : Value} (h : OL E w lo cs (fun i => if i < m then F i else G i)) (hd : Dis cs) (hm : m < cs.length) (hu : gv cs m = u) (hn : OI E w2 lo u (F m)) (hg : w.grownBy w2 u.ownBlock) :
    OL E w2 lo cs (fun i => if i < m + 1 then F i else G i) := by
  intro i hi
  by_cases e : i = m
  · subst e
    dsimp only
    rw [if_pos (by omega), hu]
    exact hn
  · have hap := hd i m hi hm e
    rw [hu] at hap
    have := (h i hi).chg (Chg.of_grown hg) (fun b hb hs => apart_not hap hb hs)
    dsimp only at this ⊢
    by_cases h3 : i < m
    · rw [if_pos h3] at this; rw [if_pos (by omega)]; exact this
    · rw [if_neg h3] at this; rw [if_neg (by omega)]; exact this
theorem OL.turned {E : TypeId} {w : World} {lo m : Nat} {cs : List Value} {F G : Nat → List Int} (h : OL E w lo cs (fun i => if i < m then F i else G i)) (hm : cs.length ≤ m) : OL E w lo cs F := h.congr fun i hi => by rw [if_pos (by omega)]
/-- the row at m, as it stands -/
theorem OL.next {E : TypeId} {w : World} {lo m : Nat} {cs : List Value} {F G : Nat → List Int} (h : OL E w lo cs (fun i => if i < m then F i else G i)) (hm : m < cs.length) : OI E w lo (gv cs m) (G m) := by
  have := h m hm
  simpa using this

theorem OPS.hold {lo : Nat} {v : Value} {ps : List PairD} {wb w : World} (h : OPS wb lo v ps) (f : Far lo wb w) : OPS w lo v ps := by
  obtain ⟨cs, h1, h2, h3⟩ := h
  exact ⟨cs, row_hold h1 f, h2.hold f, h3⟩
theorem OPS.more {w : World} {lo lo' : Nat} {v : Value} {ps : List PairD} (h : OPS w lo v ps) (hl : lo' ≤ lo) : OPS w lo' v ps := by
  obtain ⟨cs, h1, h2, h3⟩ := h
  exact ⟨cs, row_more h1 hl, h2.more hl, h3⟩

end Go.Proofs.YtjjaolndencplaaGreat
namespace Go.Proofs.YtjjaolndencplaaGreat
open Go.RowKit

theorem meetB_of {a b : List Int} {k : Nat} (hk : k < a.length) (h : hasL b (gi a k) = true) : meetB a b = true := decide_eq_true ⟨gi a k, gi_mem hk, of_decide_eq_true h⟩
theorem meetB_no {a b : List Int} {n : Nat} (hl : a.length = n) (h : ∀ j, j < n → hasL b (gi a j) = false) : meetB a b = false := by
  refine decide_eq_false fun ⟨x, h1, h2⟩ => ?_
  obtain ⟨i, hi, rfl⟩ := mem_gi h1
  exact of_decide_eq_false (h i (by omega)) h2

set_option maxRecDepth 100000 in
theorem l16Meets (A C : Option Addr) (n c m d : Nat) (a b : List Int) (w : World) (ha : RI w A n c a) (hb : RI w C m d b) :
    Calls Tryz.prog 57 #[.slice A n c, .slice C m d] w fun e w' => e = .returned (.bool (meetB a b)) ∧ Qt w w' := by
  have b1 := ha.cap; have b2 := ha.top
  go_enter Tryz.func57, Tryz.ntmps57
  go_wp2
  go_loopw [5] (fun i wr => ∃ k : Nat, k ≤ n ∧ i = .int .i64 k ∧ (∀ j, j < k → hasL b (gi a j) = false) ∧ ∃ q, wr = w.drewN q) (fun i _ => n - (intOf i).toNat)
  case atStart => exact ⟨0, Nat.zero_le _, rfl, by omega, 0, rfl⟩
  case round =>
    obtain ⟨k, hk, rfl, hall, q, rfl⟩ := hrel
    have HA := Lib.hid hall
    clear hall
    by_cases hlt : k < n
    · obtain ⟨bb, off, rfl, hc1⟩ := ha.at_ hlt
      by_cases hp : hasL b (gi a k) = true
      · have E := Lib.hid (meetB_of (by rw [ha.len]; exact hlt) hp)
        go_wp2_with fail
        refine (l16Has _ _ _ _ _ _ (hb.keep (Qt.keeps ⟨_, rfl⟩))).mono ?_; rintro e w' ⟨rfl, q2, rfl⟩
        go_wp2
        go_ret
        exact ⟨ret_b E.out.symm, _, rfl⟩
      · have hp' : hasL b (gi a k) = false := by simpa using hp
        have HP := Lib.hid hp'
        clear hp
        go_wp2_with fail
        refine (l16Has _ _ _ _ _ _ (hb.keep (Qt.keeps ⟨_, rfl⟩))).mono ?_; rintro e w' ⟨rfl, q2, rfl⟩
        go_wp2
        go_roundw
        case rel => exact ⟨k + 1, by omega, by go_num, all_succ HA.out HP.out, _, rfl⟩
        case measure => simp [intOf]; omega
    · obtain rfl : k = n := by omega
      have E := Lib.hid (meetB_no ha.len HA.out)
      go_wp2
      go_ret
      exact ⟨ret_b E.out.symm, _, rfl⟩

set_option maxRecDepth 100000 in
theorem meets (A C : Option Addr) (n c m d : Nat) (a b : List Int) (w : World) (B : Nat) (hB : B ≤ w.heap.size) (ha : RI w A n c a) (hb : RI w C m d b) (hs : rises b) (hn : n ≤ 1048576) (hm : m ≤ 1048576) :
    Calls Tryz.prog 26 #[.slice A n c, .slice C m d] w fun e w' => e = .returned (.bool (meetB a b)) ∧ Below B w w' := by
  have b1 := ha.cap; have b2 := ha.top
  have E := Lib.hid (show decide ((lessL a b).length < n) = meetB a b by rw [← lessL_meet, ha.len])
  have hl := lessL_len a b
  rw [ha.len] at hl
  go_enter Tryz.func26, Tryz.ntmps26
  go_wp2_with fail
  refine (lessOf _ _ _ _ _ _ _ _ _ _ (Nat.le_refl _) ha hb hs hn hm).mono ?_; rintro e w1 ⟨v, rfl, ho, hb1⟩
  obtain ⟨Av, cv, rfl⟩ := ho.form
  go_wp2
  go_ret
  exact ⟨ret_b E.out, hb1.mono hB⟩

/-! ### the pairs that a set violates -/
def brokenAt (ps : List PairD) (met : List Int) (i : Nat) : Bool := meetB (gp ps i).1 met && !meetB (gp ps i).2 met
def brokenUp (ps : List PairD) (met : List Int) (k : Nat) : List Int := pick (brokenAt ps met) (fun i => (i : Int)) k
def brokenL (ps : List PairD) (met : List Int) : List Int := brokenUp ps met ps.length
theorem broken_len (ps : List PairD) (met : List Int) (k : Nat) : (brokenUp ps met k).length ≤ k := pick_len _ _ _
theorem broken_yes {ps : List PairD} {met : List Int} {k : Nat} (h1 : meetB (gp ps k).1 met = true) (h2 : meetB (gp ps k).2 met = false) : brokenUp ps met (k + 1) = brokenUp ps met k ++ [(k : Int)] := pick_yes (by unfold brokenAt; rw [h1, h2]; rfl)
theorem broken_no1 {ps : List PairD} {met : List Int} {k : Nat} (h1 : meetB (gp ps k).1 met = false) : brokenUp ps met (k + 1) = brokenUp ps met k := pick_no (by unfold brokenAt; rw [h1]; rfl)
theorem broken_no2 {ps : List PairD} {met : List Int} {k : Nat} (h2 : meetB (gp ps k).2 met = true) : brokenUp ps met (k + 1) = brokenUp ps met k := pick_no (by unfold brokenAt; rw [h2]; simp)
/-- pairs of sets of some size: what the walks ask of pairs that are in order -/
def finePs (ps : List PairD) : Prop := ps.length ≤ 4 ∧ ∀ i, i < ps.length → rises (gp ps i).1 ∧ rises (gp ps i).2 ∧ (gp ps i).1.length ≤ 1048576 ∧ (gp ps i).2.length ≤ 1048576
theorem finePs_of {ps : List PairD} {n : Int} (h : pairsB ps n = true) (h0 : 0 ≤ n) (hn : n ≤ 1048576) : finePs ps := by
  unfold pairsB at h
  rw [Bool.and_eq_true, List.all_eq_true] at h
  refine ⟨of_decide_eq_true h.1, fun i hi => ?_⟩
  have h2 := h.2 _ (gp_mem hi)
  rw [Bool.and_eq_true] at h2
  have h3 := set_len h2.1 h0
  have h4 := set_len h2.2 h0
  exact ⟨rises_set h2.1, rises_set h2.2, by omega, by omega⟩

set_option maxRecDepth 100000 in
set_option maxHeartbeats 400000 in
theorem l16Broken (A C : Option Addr) (n c m d : Nat) (ps : List PairD) (met : List Int) (w : World) (B : Nat) (hB : B ≤ w.heap.size) (ha : RPS w A n c ps) (hb : RI w C m d met) (hn : n ≤ 1048576) :
    Calls Tryz.prog 59 #[.slice A n c, .slice C m d] w fun e w' => ∃ v, e = .returned v ∧ OI 2 w' B v (brokenL ps met) ∧ Below B w w' := by
  have b1 := ha.cap; have b2 := ha.top
  have HL := Lib.hid ha.len
  go_enter Tryz.func59, Tryz.ntmps59
  go_wp2
  go_loopw [5, 6] (fun v i wr => ∃ k : Nat, k ≤ n ∧ i = .int .i64 k ∧ OI 2 wr w.heap.size v (brokenUp ps met k) ∧ Below w.heap.size w wr) (fun _ i _ => n - (intOf i).toNat)
  case atStart => exact ⟨0, Nat.zero_le _, rfl, OI.empty (Nat.le_refl _), by repeat (first | with_reducible assumption | with_reducible exact Below.refl _ _ | with_reducible refine below_drewN ?_ _ | with_reducible refine Below.drew ?_ | with_reducible refine below_alloc (Nat.le_refl _) ?_)⟩
  case round =>
    obtain ⟨k, hk, rfl, ho, hbr⟩ := hrel
    have hup := broken_len ps met k
    have hsz := hbr.size
    by_cases hlt : k < n
    · obtain ⟨bb, off, A1, n1, c1, A2, n2, c2, rfl, hc1, hc2, r1, r2⟩ := (ha.keep (keeps_below hbr)).at_ hlt
      have hb' := hb.keep (keeps_below hbr)
      by_cases h1 : meetB (gp ps k).1 met = true
      · by_cases h2 : meetB (gp ps k).2 met = true
        · have HX := Lib.hid (broken_no2 (ps := ps) h2)
          go_wp2_with fail
          refine (l16Meets _ _ _ _ _ _ (gp ps k).1 _ _ r1 hb').mono ?_; rintro e w' ⟨rfl, q, rfl⟩
          go_wp2_with fail
          refine (l16Meets _ _ _ _ _ _ (gp ps k).2 _ _ (r2.keep (Qt.keeps ⟨_, rfl⟩)) (hb'.keep (Qt.keeps ⟨_, rfl⟩))).mono ?_; rintro e w' ⟨rfl, q2, rfl⟩
          go_wp2
          go_roundw
          case rel => exact ⟨k + 1, by omega, by go_num, by rw [HX.out]; exact ho, below_drewN hbr _⟩
          case measure => simp [intOf]; omega
        · have h2' : meetB (gp ps k).2 met = false := by simpa using h2
          have HX := Lib.hid (broken_yes h1 h2')
          clear h2
          go_wp2_with fail
          refine (l16Meets _ _ _ _ _ _ (gp ps k).1 _ _ r1 hb').mono ?_; rintro e w' ⟨rfl, q, rfl⟩
          go_wp2_with fail
          refine (l16Meets _ _ _ _ _ _ (gp ps k).2 _ _ (r2.keep (Qt.keeps ⟨_, rfl⟩)) (hb'.keep (Qt.keeps ⟨_, rfl⟩))).mono ?_; rintro e w' ⟨rfl, q2, rfl⟩
          go_wp2_with (refine wpList_pushI rfl (.tmp 31) (.tmp 33) rfl _ _ _ (brokenUp ps met k) rfl (ho.drewN _) _ rfl (by omega) hsz ?_; intro v2 w2 ho2 hb2 hc2 hat2)
          go_roundw
          case rel => exact ⟨k + 1, by omega, by go_num, by rw [HX.out]; exact ho2, (below_drewN hbr _).trans hb2⟩
          case measure => simp [intOf]; omega
      · have h1' : meetB (gp ps k).1 met = false := by simpa using h1
        have HX := Lib.hid (broken_no1 (ps := ps) h1')
        clear h1
        go_wp2_with (go_at_call 57; refine (l16Meets _ _ _ _ _ _ (gp ps k).1 _ _ r1 hb').mono ?_; rintro e w' ⟨rfl, q, rfl⟩)
        go_roundw
        case rel => exact ⟨k + 1, by omega, by go_num, by rw [HX.out]; exact ho, below_drewN hbr _⟩
        case measure => simp [intOf]; omega
    · obtain rfl : k = n := by omega
      have HE := Lib.hid (show brokenUp ps met k = brokenL ps met by rw [← HL.out]; rfl)
      go_wp2
      go_ret
      exact ⟨_, rfl, by rw [← HE.out]; exact ho.more hB, hbr.mono hB⟩

set_option maxRecDepth 100000 in
set_option maxHeartbeats 400000 in
theorem brokenBy (A C : Option Addr) (n c m d : Nat) (ps : List PairD) (met : List Int) (w : World) (B : Nat) (hB : B ≤ w.heap.size) (ha : RPS w A n c ps) (hb : RI w C m d met) (hf : finePs ps) (hm : m ≤ 1048576) :
    Calls Tryz.prog 31 #[.slice A n c, .slice C m d] w fun e w' => ∃ v, e = .returned v ∧ OI 2 w' B v (brokenL ps met) ∧ Below B w w' := by
  have b1 := ha.cap; have b2 := ha.top
  have HL := Lib.hid ha.len
  have HF := Lib.hid hf
  have hn4 : n ≤ 4 := by have := hf.1; rw [ha.len] at this; exact this
  clear hf
  go_enter Tryz.func31, Tryz.ntmps31
  go_wp2
  go_loopw [5, 11] (fun v i wr => ∃ k : Nat, k ≤ n ∧ i = .int .i64 k ∧ OI 2 wr w.heap.size v (brokenUp ps met k) ∧ Below w.heap.size w wr) (fun _ i _ => n - (intOf i).toNat)
  case atStart => exact ⟨0, Nat.zero_le _, rfl, OI.empty (Nat.le_refl _), by repeat (first | with_reducible assumption | with_reducible exact Below.refl _ _ | with_reducible refine below_drewN ?_ _ | with_reducible refine Below.drew ?_ | with_reducible refine below_alloc (Nat.le_refl _) ?_)⟩
  case round =>
    obtain ⟨k, hk, rfl, ho, hbr⟩ := hrel
    have hup := broken_len ps met k
    have hsz := hbr.size
    by_cases hlt : k < n
    · obtain ⟨bb, off, A1, n1, c1, A2, n2, c2, rfl, hc1, hc2, r1, r2⟩ := (ha.keep (keeps_below hbr)).at_ hlt
      obtain ⟨s1, s2, l1, l2⟩ := HF.out.2 k (by rw [HL.out]; exact hlt)
      rw [r1.len] at l1
      rw [r2.len] at l2
      have hba : Below wr.heap.size wr (wr.alloc (.cells #[.slice A1 n1 c1, .slice A2 n2 c2] 50)) := below_alloc (Nat.le_refl _) (Below.refl _ _)
      have bx := Box.new wr 50 #[.slice A1 n1 c1, .slice A2 n2 c2]
      have hb' := (hb.keep (keeps_below hbr)).keep (keeps_below hba)
      replace r1 := r1.keep (keeps_below hba)
      replace r2 := r2.keep (keeps_below hba)
      by_cases h1 : meetB met (gp ps k).1 = true
      · by_cases h2 : meetB met (gp ps k).2 = true
        · have HX := Lib.hid (broken_no2 (ps := ps) (show meetB (gp ps k).2 met = true by rw [meetB_comm]; exact h2))
          go_wp2_with fail
          refine (meets _ _ _ _ _ _ met (gp ps k).1 _ _ (Nat.le_refl _) hb' r1 s1 hm l1).mono ?_; rintro e w1 ⟨rfl, hb1⟩
          have bx1 := bx.below hb1 bx.lt
          have q1 : w1.cell? ⟨wr.heap.size, 1, none⟩ = some (.slice A2 n2 c2) := bx1.cell 1
          go_wp2_with fail
          refine (meets _ _ _ _ _ _ met (gp ps k).2 _ _ (Nat.le_refl _) (hb'.keep (keeps_below hb1)) (r2.keep (keeps_below hb1)) s2 hm l2).mono ?_; rintro e w2 ⟨rfl, hb2⟩
          have hx1 := below_then hb1 hba.size hba
          have hx2 := below_then hb2 hx1.size hx1
          go_wp2
          go_roundw
          case rel => exact ⟨k + 1, by omega, by go_num, by rw [HX.out]; exact ho.below hx2, below_then hx2 hsz hbr⟩
          case measure => simp [intOf]; omega
        · have h2' : meetB met (gp ps k).2 = false := by simpa using h2
          have HX := Lib.hid (broken_yes (ps := ps) (show meetB (gp ps k).1 met = true by rw [meetB_comm]; exact h1) (show meetB (gp ps k).2 met = false by rw [meetB_comm]; exact h2'))
          clear h2
          go_wp2_with fail
          refine (meets _ _ _ _ _ _ met (gp ps k).1 _ _ (Nat.le_refl _) hb' r1 s1 hm l1).mono ?_; rintro e w1 ⟨rfl, hb1⟩
          have bx1 := bx.below hb1 bx.lt
          have q1 : w1.cell? ⟨wr.heap.size, 1, none⟩ = some (.slice A2 n2 c2) := bx1.cell 1
          go_wp2_with fail
          refine (meets _ _ _ _ _ _ met (gp ps k).2 _ _ (Nat.le_refl _) (hb'.keep (keeps_below hb1)) (r2.keep (keeps_below hb1)) s2 hm l2).mono ?_; rintro e w2 ⟨rfl, hb2⟩
          have hx1 := below_then hb1 hba.size hba
          have hx2 := below_then hb2 hx1.size hx1
          have hx2s := hx2.size
          go_wp2_with (refine wpList_pushI rfl (.tmp 27) (.tmp 29) rfl _ _ _ (brokenUp ps met k) rfl (ho.below hx2) _ rfl (by omega) (by omega) ?_; intro v2 w3 ho2 hb3 hc3 hat3)
          go_roundw
          case rel => exact ⟨k + 1, by omega, by go_num, by rw [HX.out]; exact ho2, (below_then hx2 hsz hbr).trans hb3⟩
          case measure => simp [intOf]; omega
      · have h1' : meetB met (gp ps k).1 = false := by simpa using h1
        have HX := Lib.hid (broken_no1 (ps := ps) (show meetB (gp ps k).1 met = false by rw [meetB_comm]; exact h1'))
        clear h1
        go_wp2_with fail
        refine (meets _ _ _ _ _ _ met (gp ps k).1 _ _ (Nat.le_refl _) hb' r1 s1 hm l1).mono ?_; rintro e w1 ⟨rfl, hb1⟩
        have hx1 := below_then hb1 hba.size hba
        go_wp2
        go_roundw
        case rel => exact ⟨k + 1, by omega, by go_num, by rw [HX.out]; exact ho.below hx1, below_then hx1 hsz hbr⟩
        case measure => simp [intOf]; omega
    · obtain rfl : k = n := by omega
      have HE := Lib.hid (show brokenUp ps met k = brokenL ps met by rw [← HL.out]; rfl)
      go_wp2
      go_ret
      exact ⟨_, rfl, by rw [← HE.out]; exact ho.more hB, hbr.mono hB⟩
end Go.Proofs.YtjjaolndencplaaGreat
namespace Go.Proofs.YtjjaolndencplaaGreat
open Go.RowKit

end Go.Proofs.YtjjaolndencplaaGreat
namespace Go.Proofs.YtjjaolndencplaaGreat
open Go.RowKit

theorem gp_app_lt {ps : List PairD} {p : PairD} {i : Nat} (h : i < ps.length) : gp (ps ++ [p]) i = gp ps i := by simp [gp, List.getElem?_append_left h]
theorem gp_app_eq {ps : List PairD} {p : PairD} : gp (ps ++ [p]) ps.length = p := by simp [gp]
theorem fl_app {ps : List PairD} {p : PairD} {j : Nat} (h : j < ps.length * 2) : fl (ps ++ [p]) j = fl ps j := by
  unfold fl
  rw [gp_app_lt (by omega)]
theorem fl_app0 {ps : List PairD} {p : PairD} : fl (ps ++ [p]) (ps.length * 2) = p.1 := by rw [fl_even, gp_app_eq]
theorem fl_app1 {ps : List PairD} {p : PairD} : fl (ps ++ [p]) (ps.length * 2 + 1) = p.2 := by rw [fl_odd, gp_app_eq]
theorem gv_app2 {cs : List Value} {a b : Value} {i : Nat} : gv (cs ++ [a, b]) i = if i < cs.length then gv cs i else if i = cs.length then a else if i = cs.length + 1 then b else undef := by
  unfold gv
  rw [List.getD_eq_getElem?_getD]
  by_cases h : i < cs.length
  · rw [if_pos h, List.getElem?_append_left h, ← List.getD_eq_getElem?_getD]
  · rw [if_neg h, List.getElem?_append_right (by omega)]
    by_cases h1 : i = cs.length
    · subst h1; simp
    · rw [if_neg h1]
      by_cases h2 : i = cs.length + 1
      · subst h2; simp
      · rw [if_neg h2, List.getElem?_eq_none (by simp; omega)]; rfl

theorem OPS.lt {w : World} {lo : Nat} {v : Value} {ps : List PairD} (h : OPS w lo v ps) : ∀ b, v.ownBlock = some b → lo ≤ b ∧ b < w.heap.size := by
  obtain ⟨cs, h1, _⟩ := h
  exact World.ownsRow.lt h1
set_option maxRecDepth 100000 in
theorem wp_pushP {o : Oper} {a : Act} {K : Act → World → Prop} {Q : Exit → Act → World → Prop} (s x : Operand)
    (ho : o.op = .call { callee := .builtin .append, args := #[s, x], argTypes := #[32, 32] })
    (W w : World) (lo : Nat) (v : Value) (ps : List PairD) (u1 u2 : Value) (xs ys : List Int) (hs : a.eval s = v) (hx : a.eval x = .slice (some ⟨w.heap.size, 0, none⟩) 1 1)
    (hlo : lo ≤ W.heap.size) (hown : OPS W lo v ps) (hW : Below W.heap.size W w) (h1 : OI 2 w W.heap.size u1 xs) (h2 : OI 2 w W.heap.size u2 ys) (hap : Apart u1 u2) (hn : ps.length ≤ 1048576)
    (h : ∀ v' w', OPS w' lo v' (ps ++ [(xs, ys)]) → Below lo w w' → Chg (fun b => v.ownBlock = some b) w w' → K (a.put o.dst v') w') : o.wp Tryz.prog a (w.alloc (.cells #[u1, u2] 50)) K Q := by
  obtain ⟨i1, hi1, hy0, hy1, hy2⟩ := info_parts infoPair
  obtain ⟨cs, r0, l0, hd⟩ := hown
  obtain ⟨Au, cu, rfl⟩ := h1.form
  obtain ⟨Av, cv, rfl⟩ := h2.form
  have hba : Below w.heap.size w (w.alloc (.cells #[.slice Au xs.length cu, .slice Av ys.length cv] 50)) := below_alloc (Nat.le_refl _) (Below.refl _ _)
  have k1 := row_below (row_below r0 hW) hba
  have k2 := (l0.below hW).below hba
  have ku := h1.below hba
  have kv := h2.below hba
  have hws := hW.size
  have hsz : lo ≤ (w.alloc (.cells #[.slice Au xs.length cu, .slice Av ys.length cv] 50)).heap.size := by simp; omega
  refine wp_append_lies _ s x 32 ho lo 50 i1 (.agg #[.slice none 0 0, .slice none 0 0]) 2 48 Tryz.underlying32 hi1 hy0 hy1 hy2 rfl (by decide) v ps.length cs hs k1 ⟨w.heap.size, 0, none⟩ 1 1 [.slice Au xs.length cu, .slice Av ys.length cv] hx rfl
    (fun j y hj => by
      match j, hj with
      | 0, hj => simp at hj; subst hj; simp [Addr.add]
      | 1, hj => simp at hj; subst hj; simp [Addr.add]) (by simp [Value.oneCell']) (by decide) (by unfold maxLen; omega) (by omega) hsz _ rfl ?_
  intro g cap w' r hg hat hlt
  have hc := Chg.of_grown hg
  have n2 : OL 2 w' lo cs (fl ps) := fun i hi => (k2 i hi).chg hc (fun b hb hs => own_ne (k2 i hi) k1 (by decide) b hb hs)
  have nu := ku.chg hc (fun b hb hs => own_ne ku k1 (by decide) b hb hs)
  have nv := kv.chg hc (fun b hb hs => own_ne kv k1 (by decide) b hb hs)
  have hcl := row_len k1
  have old1 : ∀ i, i < cs.length → Apart (gv cs i) (.slice Au xs.length cu) := fun i hi => apart_sep (fun b hb => (l0.lt i hi b hb).2) (fun b hb => (h1.lt b hb).1)
  have old2 : ∀ i, i < cs.length → Apart (gv cs i) (.slice Av ys.length cv) := fun i hi => apart_sep (fun b hb => (l0.lt i hi b hb).2) (fun b hb => (h2.lt b hb).1)
  refine h _ w' ⟨cs ++ [.slice Au xs.length cu, .slice Av ys.length cv], ?_, ?_, ?_⟩ ((hba.mono (Nat.le_trans hlo hws)).trans (hc.below hsz (fun b hb => (World.ownsRow.lt k1 b hb).1))) (((Chg.refl (fun _ => False) w).alloc _).trans hc (fun _ h => h.elim) (fun _ h => h))
  · simpa using r
  · intro i hi
    simp only [List.length_append, List.length_cons, List.length_nil] at hi
    rw [gv_app2]
    by_cases e : i < cs.length
    · rw [if_pos e, fl_app (by omega)]
      exact n2 i e
    · rw [if_neg e]
      by_cases e1 : i = cs.length
      · rw [if_pos e1, e1, hcl, fl_app0]
        exact nu.more hlo
      · rw [if_neg e1, if_pos (by omega), show i = ps.length * 2 + 1 from by omega, fl_app1]
        exact nv.more hlo
  · intro i j hi hj hne
    simp only [List.length_append, List.length_cons, List.length_nil] at hi hj
    rw [gv_app2, gv_app2]
    by_cases e : i < cs.length
    · rw [if_pos e]
      by_cases f : j < cs.length
      · rw [if_pos f]; exact hd i j e f hne
      · rw [if_neg f]
        by_cases f1 : j = cs.length
        · rw [if_pos f1]; exact old1 i e
        · rw [if_neg f1, if_pos (by omega)]; exact old2 i e
    · rw [if_neg e]
      by_cases e1 : i = cs.length
      · rw [if_pos e1]
        by_cases f : j < cs.length
        · rw [if_pos f]; exact (old1 j f).symm
        · rw [if_neg f, if_neg (by omega), if_pos (by omega)]; exact hap
      · rw [if_neg e1, if_pos (by omega)]
        by_cases f : j < cs.length
        · rw [if_pos f]; exact (old2 j f).symm
        · rw [if_neg f, if_pos (by omega)]; exact hap.symm

theorem OPS.empty {w : World} {B : Nat} (hB : B ≤ w.heap.size) : OPS (w.alloc (.cells #[] 50)) B (.slice (some ⟨w.heap.size, 0, none⟩) 0 0) [] :=
  ⟨[], World.ownsRow_lit w #[] 0 hB (by decide) rfl, fun i hi => absurd hi (by simp), fun i j hi _ _ => absurd hi (by simp)⟩
theorem OPS.nil (w : World) (lo : Nat) : OPS w lo (.slice none 0 0) [] :=
  ⟨[], World.ownsRow_nil w lo 50 2, fun i hi => absurd hi (by simp), fun i j hi _ _ => absurd hi (by simp)⟩

/-! ### places in keep of what of a set is in it -/
/-- as wp_pushP, where old memory below lo may have turned -/
theorem OPS.chg {S : Nat → Prop} {w w' : World} {lo : Nat} {v : Value} {ps : List PairD} (h : OPS w lo v ps) (hc : Chg S w w') (hS : ∀ b, S b → b < lo) : OPS w' lo v ps := by
  obtain ⟨cs, h1, h2, h3⟩ := h
  exact ⟨cs, row_chg h1 hc fun b hb hs => by have := (World.ownsRow.lt h1 b hb).1; have := hS b hs; omega, h2.chg hc hS, h3⟩
set_option maxRecDepth 100000 in
theorem wpList_pushP2 {ops : Array Oper} {rest : List Oper} {o : Oper} {a : Act} {Q : Exit → Act → World → Prop} (hgd : o.guard = none) (s x : Operand)
    (ho : o.op = .call { callee := .builtin .append, args := #[s, x], argTypes := #[32, 32] })
    (W w : World) (lo : Nat) (v : Value) (ps : List PairD) (u1 u2 : Value) (xs ys : List Int) (hs : a.eval s = v) (hx : a.eval x = .slice (some ⟨w.heap.size, 0, none⟩) 1 1)
    (hlo : lo ≤ W.heap.size) (hown : OPS W lo v ps) (hW : Chg (fun b => b < lo) W w) (h1 : OI 2 w W.heap.size u1 xs) (h2 : OI 2 w W.heap.size u2 ys) (hap : Apart u1 u2) (hn : ps.length ≤ 1048576)
    (h : ∀ v' w', OPS w' lo v' (ps ++ [(xs, ys)]) → Below lo w w' → Chg (fun b => v.ownBlock = some b) w w' → wpList Tryz.prog ops Q rest (a.put o.dst v') w') : wpList Tryz.prog ops Q (o :: rest) a (w.alloc (.cells #[u1, u2] 50)) := by
  refine wpList_plain hgd fun K hK => ?_
  replace h := fun v' w' h1 h2 h3 => hK _ _ (h v' w' h1 h2 h3)
  obtain ⟨i1, hi1, hy0, hy1, hy2⟩ := info_parts infoPair
  obtain ⟨cs, r0, l0, hd⟩ := hown
  obtain ⟨Au, cu, rfl⟩ := h1.form
  obtain ⟨Av, cv, rfl⟩ := h2.form
  have hba : Below w.heap.size w (w.alloc (.cells #[.slice Au xs.length cu, .slice Av ys.length cv] 50)) := below_alloc (Nat.le_refl _) (Below.refl _ _)
  have k1 := row_below (row_chg r0 hW (fun b hb hs => by have := (World.ownsRow.lt r0 b hb).1; omega)) hba
  have k2 := (l0.chg hW (fun _ h => h)).below hba
  have ku := h1.below hba
  have kv := h2.below hba
  have hws := hW.size
  have hsz : lo ≤ (w.alloc (.cells #[.slice Au xs.length cu, .slice Av ys.length cv] 50)).heap.size := by simp; omega
  refine wp_append_lies _ s x 32 ho lo 50 i1 (.agg #[.slice none 0 0, .slice none 0 0]) 2 48 Tryz.underlying32 hi1 hy0 hy1 hy2 rfl (by decide) v ps.length cs hs k1 ⟨w.heap.size, 0, none⟩ 1 1 [.slice Au xs.length cu, .slice Av ys.length cv] hx rfl
    (fun j y hj => by
      match j, hj with
      | 0, hj => simp at hj; subst hj; simp [Addr.add]
      | 1, hj => simp at hj; subst hj; simp [Addr.add]) (by simp [Value.oneCell']) (by decide) (by unfold maxLen; omega) (by omega) hsz _ rfl ?_
  intro g cap w' r hg hat hlt
  have hc := Chg.of_grown hg
  have n2 : OL 2 w' lo cs (fl ps) := fun i hi => (k2 i hi).chg hc (fun b hb hs => own_ne (k2 i hi) k1 (by decide) b hb hs)
  have nu := ku.chg hc (fun b hb hs => own_ne ku k1 (by decide) b hb hs)
  have nv := kv.chg hc (fun b hb hs => own_ne kv k1 (by decide) b hb hs)
  have hcl := row_len k1
  have old1 : ∀ i, i < cs.length → Apart (gv cs i) (.slice Au xs.length cu) := fun i hi => apart_sep (fun b hb => (l0.lt i hi b hb).2) (fun b hb => (h1.lt b hb).1)
  have old2 : ∀ i, i < cs.length → Apart (gv cs i) (.slice Av ys.length cv) := fun i hi => apart_sep (fun b hb => (l0.lt i hi b hb).2) (fun b hb => (h2.lt b hb).1)
  refine h _ w' ⟨cs ++ [.slice Au xs.length cu, .slice Av ys.length cv], ?_, ?_, ?_⟩ ((hba.mono (Nat.le_trans hlo hws)).trans (hc.below hsz (fun b hb => (World.ownsRow.lt k1 b hb).1))) (((Chg.refl (fun _ => False) w).alloc _).trans hc (fun _ h => h.elim) (fun _ h => h))
  · simpa using r
  · intro i hi
    simp only [List.length_append, List.length_cons, List.length_nil] at hi
    rw [gv_app2]
    by_cases e : i < cs.length
    · rw [if_pos e, fl_app (by omega)]
      exact n2 i e
    · rw [if_neg e]
      by_cases e1 : i = cs.length
      · rw [if_pos e1, e1, hcl, fl_app0]
        exact nu.more hlo
      · rw [if_neg e1, if_pos (by omega), show i = ps.length * 2 + 1 from by omega, fl_app1]
        exact nv.more hlo
  · intro i j hi hj hne
    simp only [List.length_append, List.length_cons, List.length_nil] at hi hj
    rw [gv_app2, gv_app2]
    by_cases e : i < cs.length
    · rw [if_pos e]
      by_cases f : j < cs.length
      · rw [if_pos f]; exact hd i j e f hne
      · rw [if_neg f]
        by_cases f1 : j = cs.length
        · rw [if_pos f1]; exact old1 i e
        · rw [if_neg f1, if_pos (by omega)]; exact old2 i e
    · rw [if_neg e]
      by_cases e1 : i = cs.length
      · rw [if_pos e1]
        by_cases f : j < cs.length
        · rw [if_pos f]; exact (old1 j f).symm
        · rw [if_neg f, if_neg (by omega), if_pos (by omega)]; exact hap
      · rw [if_neg e1, if_pos (by omega)]
        by_cases f : j < cs.length
        · rw [if_pos f]; exact (old2 j f).symm
        · rw [if_neg f, if_pos (by omega)]; exact hap.symm

end Go.Proofs.YtjjaolndencplaaGreat
namespace Go.Proofs.YtjjaolndencplaaGreat
open Go.RowKit

/-- pairs by dice -/
def PairsBy (w0 w : World) (b : Nat) (n most : Int) (e : Ending) (w' : World) : Prop :=
  ∃ v ps, e = .returned v ∧ ((ps.length : Int) ≤ most ∧ ∀ i, i < ps.length → setB (gp ps i).1 n = true ∧ setB (gp ps i).2 n = true) ∧ OPS w' w.heap.size v ps ∧ DiceAt w0 w' b ∧ Chg (fun y => y = b) w w'
set_option maxRecDepth 100000 in
set_option maxHeartbeats 400000 in
theorem w6Pairs (w0 w : World) (b : Nat) (n most : Int) (hd : DiceAt w0 w b) (h0 : 0 ≤ n) (hn : n ≤ 256) (hm0 : 0 ≤ most) (hm : most ≤ 100) :
    Calls Tryz.prog 7 #[.pointer (some ⟨b, 0, none⟩), .int .i64 n, .int .i64 most] w (PairsBy w0 w b n most) := by
  have hdl := hd.lt
  have hem := OPS.empty (w := w) (B := w.heap.size) (Nat.le_refl _)
  have hal : Below w.heap.size w (w.alloc (.cells #[] 50)) := below_alloc (Nat.le_refl _) (Below.refl _ _)
  go_enter Tryz.func7, Tryz.ntmps7
  go_wp2_with fail
  refine (below w0 _ b (most + 1) (hd.on hal) (by omega)).mono ?_; rintro e w1 ⟨x, rfl, hx, hd1, hc1⟩
  have hca : Chg (fun y => y = b) w w1 := chg_then ((Chg.refl _ _).alloc _) hc1
  have ho1 := hem.chg hc1 (fun z hz => by have h3 : z = b := hz; omega)
  obtain ⟨x', rfl⟩ := Int.eq_ofNat_of_zero_le hx.1
  have hxm : (x' : Int) ≤ most := by omega
  go_wp2
  go_loopw [7, 8] (fun v i wr => ∃ (k : Nat) (ps : List PairD), k ≤ x' ∧ i = .int .i64 k ∧ ps.length + k ≤ x' ∧ (∀ i, i < ps.length → setB (gp ps i).1 n = true ∧ setB (gp ps i).2 n = true) ∧ OPS wr w.heap.size v ps ∧ DiceAt w0 wr b ∧ Chg (fun y => y = b) w wr) (fun _ i _ => (intOf i).toNat)
  case atStart => exact ⟨x', [], Nat.le_refl _, rfl, by simp, fun i hi => absurd hi (by simp), ho1, hd1, hca⟩
  case round =>
    obtain ⟨k, ps, hk, rfl, hl, hs, ho, hdr, hc⟩ := hrel
    have HS := Lib.hid hs
    have hsz := hc.size
    clear hs
    by_cases hlt : 0 < k
    · go_wp2_with fail
      refine (w6Set w0 _ b n hdr h0 hn).mono ?_; rintro e w2 ⟨v1, xs, rfl, hsx, ho2, hd2, hc2⟩
      obtain ⟨Au, cu, rfl⟩ := ho2.form
      have HX := Lib.hid hsx
      clear hsx
      go_wp2_with fail
      refine (w6Set w0 _ b n hd2 h0 hn).mono ?_; rintro e w3 ⟨v2, ys, rfl, hsy, ho3, hd3, hc3⟩
      obtain ⟨Av, cv, rfl⟩ := ho3.form
      have HY := Lib.hid hsy
      clear hsy
      have hs2 := hc2.size; have hs3 := hc3.size
      have hap := apart_lt ho2 ho3 (Nat.le_refl _)
      have ho2' := ho2.chg hc3 (fun z hz hs => by have h1 := (ho2.lt z hz).1; have h3 : z = b := hs; omega)
      have hW := (chg_then hc2 hc3).mono (T := fun z => z < w.heap.size) (fun z hz => by have h3 : z = b := hz; omega)
      go_wp2_with (at_builtin; refine wpList_pushP2 rfl (.tmp 18) (.tmp 26) rfl wr _ w.heap.size _ ps _ _ xs ys rfl rfl hsz ho hW ho2' (ho3.more (by omega)) hap (by omega) ?_; intro v4 w4 ho4 hb4 hch4)
      go_wp2
      go_roundw
      case rel =>
        refine ⟨k - 1, ps ++ [(xs, ys)], by omega, ?_, by rw [List.length_append, List.length_singleton]; omega, ?_, ho4, hd3.chg hch4 (fun z hz => by have := (ho.lt z hz).1; omega), chg_app (chg_then hc (chg_then hc2 hc3)) (Nat.le_refl _) hch4 (fun z hz => (ho.lt z hz).1)⟩
        · rw [show ((k - 1 : Nat) : Int) = (k : Int) - 1 by omega]
        · intro i hi
          rw [List.length_append, List.length_singleton] at hi
          by_cases e : i < ps.length
          · rw [gp_app_lt e]; exact HS.out i e
          · obtain rfl : i = ps.length := by omega
            rw [gp_app_eq]; exact ⟨HX.out, HY.out⟩
      case measure => simp [intOf]; omega
    · obtain rfl : k = 0 := by omega
      go_wp2
      go_ret
      exact ⟨_, ps, rfl, ⟨by omega, HS.out⟩, ho, hdr, hc⟩
end Go.Proofs.YtjjaolndencplaaGreat
namespace Go.Proofs.YtjjaolndencplaaGreat
open Go.RowKit

theorem twoH_1_2 {P : Program} {Q : Exit → Act → World → Prop} {md : Region.Mode} {S : World → Prop} {fuel : Nat} {listed : Array Bool} {a : Act} {w : World} {o0 o1 o2 : Oper} {r : List Oper} (hr : Region.ready md (List.toArray (o0 :: o1 :: o2 :: r)) listed = [1, 2])
    (h1 : ∀ K' : Act → World → Prop, Shut (∀ a w, S w → (S w → wpAnyH P md (List.toArray (o0 :: o1 :: o2 :: r)) Q S fuel (listed.setIfInBounds 1 true) a w) → K' a w) → if Region.wanted o1 (yielded (List.toArray (o0 :: o1 :: o2 :: r)) a.tmps) = true then Oper.wp P o1 a w K' Q else K' (a.put o1.dst undef) w) (h2 : ∀ K' : Act → World → Prop, Shut (∀ a w, S w → (S w → wpAnyH P md (List.toArray (o0 :: o1 :: o2 :: r)) Q S fuel (listed.setIfInBounds 2 true) a w) → K' a w) → if Region.wanted o2 (yielded (List.toArray (o0 :: o1 :: o2 :: r)) a.tmps) = true then Oper.wp P o2 a w K' Q else K' (a.put o2.dst undef) w) : wpAnyH P md (List.toArray (o0 :: o1 :: o2 :: r)) Q S (fuel + 1) listed a w :=
  wpAnyH_ready (rs := [1, 2]) hr (by simp) (AllReadyH.cons rfl h1 (AllReadyH.cons rfl h2 AllReadyH.nil))
theorem twoH_1_8 {P : Program} {Q : Exit → Act → World → Prop} {md : Region.Mode} {S : World → Prop} {fuel : Nat} {listed : Array Bool} {a : Act} {w : World} {o0 o1 o2 o3 o4 o5 o6 o7 o8 : Oper} {r : List Oper} (hr : Region.ready md (List.toArray (o0 :: o1 :: o2 :: o3 :: o4 :: o5 :: o6 :: o7 :: o8 :: r)) listed = [1, 8])
    (h1 : ∀ K' : Act → World → Prop, Shut (∀ a w, S w → (S w → wpAnyH P md (List.toArray (o0 :: o1 :: o2 :: o3 :: o4 :: o5 :: o6 :: o7 :: o8 :: r)) Q S fuel (listed.setIfInBounds 1 true) a w) → K' a w) → if Region.wanted o1 (yielded (List.toArray (o0 :: o1 :: o2 :: o3 :: o4 :: o5 :: o6 :: o7 :: o8 :: r)) a.tmps) = true then Oper.wp P o1 a w K' Q else K' (a.put o1.dst undef) w) (h2 : ∀ K' : Act → World → Prop, Shut (∀ a w, S w → (S w → wpAnyH P md (List.toArray (o0 :: o1 :: o2 :: o3 :: o4 :: o5 :: o6 :: o7 :: o8 :: r)) Q S fuel (listed.setIfInBounds 8 true) a w) → K' a w) → if Region.wanted o8 (yielded (List.toArray (o0 :: o1 :: o2 :: o3 :: o4 :: o5 :: o6 :: o7 :: o8 :: r)) a.tmps) = true then Oper.wp P o8 a w K' Q else K' (a.put o8.dst undef) w) : wpAnyH P md (List.toArray (o0 :: o1 :: o2 :: o3 :: o4 :: o5 :: o6 :: o7 :: o8 :: r)) Q S (fuel + 1) listed a w :=
  wpAnyH_ready (rs := [1, 8]) hr (by simp) (AllReadyH.cons rfl h1 (AllReadyH.cons rfl h2 AllReadyH.nil))
theorem twoH_1_9 {P : Program} {Q : Exit → Act → World → Prop} {md : Region.Mode} {S : World → Prop} {fuel : Nat} {listed : Array Bool} {a : Act} {w : World} {o0 o1 o2 o3 o4 o5 o6 o7 o8 o9 : Oper} {r : List Oper} (hr : Region.ready md (List.toArray (o0 :: o1 :: o2 :: o3 :: o4 :: o5 :: o6 :: o7 :: o8 :: o9 :: r)) listed = [1, 9])
    (h1 : ∀ K' : Act → World → Prop, Shut (∀ a w, S w → (S w → wpAnyH P md (List.toArray (o0 :: o1 :: o2 :: o3 :: o4 :: o5 :: o6 :: o7 :: o8 :: o9 :: r)) Q S fuel (listed.setIfInBounds 1 true) a w) → K' a w) → if Region.wanted o1 (yielded (List.toArray (o0 :: o1 :: o2 :: o3 :: o4 :: o5 :: o6 :: o7 :: o8 :: o9 :: r)) a.tmps) = true then Oper.wp P o1 a w K' Q else K' (a.put o1.dst undef) w) (h2 : ∀ K' : Act → World → Prop, Shut (∀ a w, S w → (S w → wpAnyH P md (List.toArray (o0 :: o1 :: o2 :: o3 :: o4 :: o5 :: o6 :: o7 :: o8 :: o9 :: r)) Q S fuel (listed.setIfInBounds 9 true) a w) → K' a w) → if Region.wanted o9 (yielded (List.toArray (o0 :: o1 :: o2 :: o3 :: o4 :: o5 :: o6 :: o7 :: o8 :: o9 :: r)) a.tmps) = true then Oper.wp P o9 a w K' Q else K' (a.put o9.dst undef) w) : wpAnyH P md (List.toArray (o0 :: o1 :: o2 :: o3 :: o4 :: o5 :: o6 :: o7 :: o8 :: o9 :: r)) Q S (fuel + 1) listed a w :=
  wpAnyH_ready (rs := [1, 9]) hr (by simp) (AllReadyH.cons rfl h1 (AllReadyH.cons rfl h2 AllReadyH.nil))
set_option maxRecDepth 100000 in
set_option maxHeartbeats 1600000 in
theorem w6Copy (s0 s1 : Value) (z : ArD) (w : World) (B : Nat) (hB : B ≤ w.heap.size) (ha : RAv w s0 s1 z.1 z.2) (hf : fineAr z.1 z.2) :
    Calls Tryz.prog 9 #[.agg #[s0, s1]] w fun e w' => ∃ t0 t1, e = .returned (.agg #[t0, t1]) ∧ OArn w' B t0 t1 z ∧ Below B w w' := by
  obtain ⟨A0, n0, c0, A1, n1, c1, rfl, rfl⟩ := ha.form
  have hr := ha.ri; have hrr := ha.rii
  have b1 := hrr.cap; have b2 := hrr.top
  have HL := Lib.hid hr.len; have HM := Lib.hid hrr.len
  have hn0 : n0 ≤ 1048576 := by have := hf.2.1; rw [HL.out] at this; omega
  have hn1 : n1 ≤ 1048576 := by have := hf.2.2.1; rw [HM.out, HL.out] at this; omega
  have hle : ∀ i, i < n1 → (gl z.2 i).length ≤ 1048576 := fun i hi => by
    have h3 := hf.2.2.1
    have := (hf.2.2.2 i (by rw [← h3, HM.out]; exact hi)).2.1.2
    omega
  have HLE := Lib.hid hle
  clear hle hf
  have hwL : Below w.heap.size w ((w.alloc (.cells #[.slice A0 n0 c0, .slice A1 n1 c1] 30)).alloc (.cells #[.slice none 0 0, .slice none 0 0] 30)) := below_alloc (Nat.le_refl _) (below_alloc (Nat.le_refl _) (Below.refl _ _))
  have bxL := (Box.new w 30 #[.slice A0 n0 c0, .slice A1 n1 c1]).alloc (.cells #[.slice none 0 0, .slice none 0 0] 30)
  have brL : Box ((w.alloc (.cells #[.slice A0 n0 c0, .slice A1 n1 c1] 30)).alloc (.cells #[.slice none 0 0, .slice none 0 0] 30)) (w.heap.size + 1) 30 #[.slice none 0 0, .slice none 0 0] := Box.new' (by simp)
  have hsL : w.heap.size + 2 = ((w.alloc (.cells #[.slice A0 n0 c0, .slice A1 n1 c1] 30)).alloc (.cells #[.slice none 0 0, .slice none 0 0] 30)).heap.size := by simp
  have q0 := bxL.d0; have q1 := bxL.d1
  go_enter Tryz.func9, Tryz.ntmps9
  go_wp2_with fail
  generalize ((w.alloc (.cells #[.slice A0 n0 c0, .slice A1 n1 c1] 30)).alloc (.cells #[.slice none 0 0, .slice none 0 0] 30)) = W at *
  have HsL := Lib.hid hsL
  replace hsL : w.heap.size + 2 ≤ W.heap.size := by omega
  have hem := OI.empty (E := 2) (w := W) (B := W.heap.size) (Nat.le_refl _)
  have hbE : Below W.heap.size W (W.alloc (.cells #[] 2)) := below_alloc (Nat.le_refl _) (Below.refl _ _)
  have q0' : (W.alloc (.cells #[] 2)).cell? ⟨w.heap.size, 0, none⟩ = some (.slice A0 n0 c0) := keepA q0
  go_wp2_with (at_builtin; refine wpList_appI rfl (.tmp 5) (.tmp 7) rfl _ W.heap.size _ [] rfl hem _ _ _ z.1 rfl ((hr.keep (keeps_below hwL)).keep (keeps_below hbE)) (by simp) (by omega) (by simp) ?_; intro v0 w1 ho1 hb1' hc1 hat1; have hb1 := hbE.trans hb1'; try rw [List.nil_append] at ho1; obtain ⟨Av0, cv0, rfl⟩ := ho1.form; have hs1 := hb1.size; have bx1 := bxL.below hb1 (by omega); have br1 := brL.below hb1 (by omega))
  clear hem hbE q0' hb1' hc1 hat1
  go_loopw [4] (fun i wr => ∃ (k : Nat) (v1 : Value) (L : List (List Int)), k ≤ n1 ∧ i = .int .i64 k ∧ L = z.2.take k ∧ OArn wr (w1.heap.size + 1) (.slice none 0 0) v1 ([], L) ∧ Box wr w1.heap.size 30 #[.slice Av0 z.1.length cv0, v1] ∧ Below w1.heap.size w1 wr ∧ w1.heap.size + 1 ≤ wr.heap.size) (fun i _ => n1 - (intOf i).toNat)
  case atStart => exact ⟨0, _, [], Nat.zero_le _, rfl, rfl, OArn.nil _ _, Box.new _ _ _, below_alloc (Nat.le_refl _) (Below.refl _ _), by simp⟩
  case round =>
    obtain ⟨k, v1, L, hk, rfl, hLk, ho, bR, hbr, hsr⟩ := hrel
    have HLk := Lib.hid hLk
    have hlen : L.length ≤ 4194304 := by rw [hLk, List.length_take, HM.out]; omega
    clear hLk
    obtain ⟨A3, c3, Av, cv, h0e, rfl⟩ := ho.form
    clear h0e
    have bX := bx1.below hbr (by omega)
    have g0 := bX.d0
    have g1 := bX.d1
    by_cases hlt : k < n1
    · obtain ⟨bb, off, A4, n4, c4, rfl, hc, r4⟩ := (ha.rii.keep (keeps_below ((hwL.trans (hb1.mono (by omega))).trans (hbr.mono (by omega))))).at_ hlt
      have hbb : bb < w.heap.size := by
        obtain ⟨bb', off', A4', n4', c4', e', hc', _⟩ := ha.rii.at_ hlt
        injection e' with e'
        injection e' with e2 e3
        subst e2
        simpa using World.block_lt_of_cell? w _ hc'
      have hl4 : n4 ≤ 1048576 := by have := HLE.out k hlt; rw [r4.len] at this; exact this
      have p0 := bR.d0
      have p1 := bR.d1
      have hX := Lib.hid (take_gl (xs := z.2) (k := k) (by rw [HM.out]; exact hlt))
      go_wp2_with fail
      refine wp_region_held_drew (S := fun w' => w'.cell? ⟨w.heap.size, 1, none⟩ = some (.slice (some ⟨bb, off, none⟩) n1 c1) ∧ w'.cell? ⟨bb, off + k, none⟩ = some (.slice A4 n4 c4)) (by kernel_rfl) ⟨g1, hc⟩ (fun hHeld => ?_)
      have hdr : Below wr.heap.size wr wr.drew := Below.drew (Below.refl _ _)
      have hrD := r4.keep (keeps_below hdr)
      replace bX : Box wr.drew _ _ _ := bX
      replace bR : Box wr.drew _ _ _ := bR
      replace g1 : wr.drew.cell? _ = some _ := g1
      replace hc : wr.drew.cell? _ = some _ := hc
      replace ho := ho.below hdr
      replace hbr : Below _ _ wr.drew := Below.drew hbr
      replace hsr : w1.heap.size + 1 ≤ wr.drew.heap.size := hsr
      clear hdr p0 p1 g0 r4
      generalize wr.drew = wD at *
      have k1 := bR.d1
      have hem := OI.empty (E := 2) (w := wD) (B := wD.heap.size) (Nat.le_refl _)
      have hbE : Below wD.heap.size wD (wD.alloc (.cells #[] 2)) := below_alloc (Nat.le_refl _) (Below.refl _ _)
      have k1' : ∀ o, (wD.alloc o).cell? ⟨w1.heap.size, 1, none⟩ = some (.slice Av L.length cv) := fun o => keepA k1
      have hrE := hrD.keep (keeps_below hbE)
      refine takeH0 (v := ?_) (by kernel_rfl) (by kernel_rfl) (by kernel_rfl) (fun _ _ _ h => h) hHeld (by rfl) ?_ ?_
      rotate_left; · (intro w hSw; (try dsimp only at hSw); go_simp; try with_reducible rfl)
      try simp only [Act.put, List.setIfInBounds_toArray, List.set_cons_zero, List.set_cons_succ]
      refine takeH3 (v := ?_) (by kernel_rfl) (by kernel_rfl) (by kernel_rfl) (fun _ _ _ h => h) hHeld (by rfl) ?_ ?_
      rotate_left; · (intro w hSw; (try dsimp only at hSw); go_simp; try with_reducible rfl)
      try simp only [Act.put, List.setIfInBounds_toArray, List.set_cons_zero, List.set_cons_succ]
      refine takeH4 (v := ?_) (by kernel_rfl) (by kernel_rfl) (by kernel_rfl) (fun _ _ _ h => h) hHeld (by rfl) ?_ ?_
      rotate_left; · (intro w hSw; (try dsimp only at hSw); go_simp; try with_reducible rfl)
      try simp only [Act.put, List.setIfInBounds_toArray, List.set_cons_zero, List.set_cons_succ]
      refine takeH5 (v := ?_) (by kernel_rfl) (by kernel_rfl) (by kernel_rfl) (fun _ _ _ h => h) hHeld (by rfl) ?_ ?_
      rotate_left; · (intro w hSw; (try dsimp only at hSw); go_simp; try with_reducible rfl)
      try simp only [Act.put, List.setIfInBounds_toArray, List.set_cons_zero, List.set_cons_succ]
      refine takeH6 (v := ?_) (by kernel_rfl) (by kernel_rfl) (by kernel_rfl) (fun _ _ _ h => h) hHeld (by rfl) ?_ ?_
      rotate_left; · (intro w hSw; (try dsimp only at hSw); go_simp; try with_reducible rfl)
      try simp only [Act.put, List.setIfInBounds_toArray, List.set_cons_zero, List.set_cons_succ]
      refine takeH7 (v := ?_) (by kernel_rfl) (by kernel_rfl) (by kernel_rfl) (fun _ _ _ h => h) hHeld (by rfl) ?_ ?_
      rotate_left; · (intro w hSw; (try dsimp only at hSw); go_simp; try with_reducible rfl)
      try simp only [Act.put, List.setIfInBounds_toArray, List.set_cons_zero, List.set_cons_succ]
      refine twoH_1_2 (by kernel_rfl) (fun K hK => ?_) (fun K hK => ?_)
      · go_simp
        refine hK.out _ _ (⟨g1, hc⟩) (fun hHeld => ?_)
        clear hK K
        try simp only [Act.put, List.setIfInBounds_toArray, List.set_cons_zero, List.set_cons_succ]
        refine callH2 (by kernel_rfl) (fun K hK => ?_)
        go_simp
        refine hK.out _ _ (⟨keepA g1, keepA hc⟩) (fun hHeld => ?_)
        clear hK K
        try simp only [Act.put, List.setIfInBounds_toArray, List.set_cons_zero, List.set_cons_succ]
        refine callH8 (by kernel_rfl) (fun K hK => ?_)
        refine step_of_list (by rfl) (wp_appI (.tmp 19) (.tmp 24) (by rfl) (wD.alloc (.cells #[] 2)) wD.heap.size (.slice (some ⟨wD.heap.size, 0, none⟩) 0 0) [] (by rfl) hem A4 n4 c4 (gl z.2 k) (by rfl) hrE (by simp) (by omega) hbE.size ?_)
        intro u2 w2 ho2 hb2' hc2 hat2
        rw [List.nil_append] at ho2
        obtain ⟨Au, cu, rfl⟩ := ho2.form
        have hb2 : Below wD.heap.size wD w2 := hbE.trans hb2'
        have bX2 := bX.below hb2 (by omega)
        have bR2 := bR.below hb2 (by omega)
        have S1 : w2.cell? ⟨w.heap.size, 1, none⟩ = some (.slice (some ⟨bb, off, none⟩) n1 c1) := bX2.d1
        have S2 : w2.cell? ⟨bb, off + k, none⟩ = some (.slice A4 n4 c4) := (hb2.cell (by show bb < _; omega)).trans hc
        have k2 := bR2.d1
        have k2' : ∀ o, (w2.alloc o).cell? ⟨w1.heap.size, 1, none⟩ = some (.slice Av L.length cv) := fun o => keepA k2
        refine hK.out _ _ (⟨S1, S2⟩) (fun hHeld => ?_)
        clear hK K
        try simp only [Act.put, List.setIfInBounds_toArray, List.set_cons_zero, List.set_cons_succ]
        refine callH9 (by kernel_rfl) (fun K hK => ?_)
        go_simp
        refine hK.out _ _ (⟨keepA S1, keepA S2⟩) (fun hHeld => ?_)
        clear hK K
        try simp only [Act.put, List.setIfInBounds_toArray, List.set_cons_zero, List.set_cons_succ]
        refine callH10 (by kernel_rfl) (fun K hK => ?_)
        refine step_of_list (by rfl) (wp_pushN (.tmp 18) (.tmp 26) (by rfl) wD w2 (w1.heap.size + 1) (.slice none 0 0) (.slice Av L.length cv) ([], L) (.slice Au (gl z.2 k).length cu) (gl z.2 k) (by rfl) (by rfl) hsr ho hb2 ho2 hlen ?_)
        intro v3 w3 ho3 hb3 hc3 hat3
        obtain ⟨_, _, Av3, cv3, h0e3, h1e3⟩ := ho3.form
        clear h0e3 hat3
        have h1e : v3 = .slice Av3 (L.length + 1) cv3 := by rw [h1e3]; simp
        subst h1e
        clear h1e3
        have bX3 := bX2.below hb3 (by omega)
        have bR3 := bR2.below hb3 (by omega)
        have S31 : w3.cell? ⟨w.heap.size, 1, none⟩ = some (.slice (some ⟨bb, off, none⟩) n1 c1) := bX3.d1
        have S32 : w3.cell? ⟨bb, off + k, none⟩ = some (.slice A4 n4 c4) := (hb3.cell (by show bb < _; omega)).trans S2
        have T1 := bR3.d1
        have F1 := bR3.hot 1
        refine hK.out _ _ (⟨S31, S32⟩) (fun hHeld => ?_)
        clear hK K
        try simp only [Act.put, List.setIfInBounds_toArray, List.set_cons_zero, List.set_cons_succ]
        refine takeH11 (v := ?_) (by kernel_rfl) (by kernel_rfl) (by kernel_rfl) (fun _ _ _ h => h) hHeld (by rfl) ?_ ?_
        rotate_left; · (intro w hSw; (try dsimp only at hSw); go_simp; try with_reducible rfl)
        try simp only [Act.put, List.setIfInBounds_toArray, List.set_cons_zero, List.set_cons_succ]
        refine callH12 (by kernel_rfl) (fun K hK => ?_)
        go_simp
        refine hK.out _ _ (⟨keepS S31 (by show w.heap.size ≠ w1.heap.size; omega), keepS S32 (by show bb ≠ w1.heap.size; omega)⟩) (fun hHeld => ?_)
        clear hK K
        try simp only [Act.put, List.setIfInBounds_toArray, List.set_cons_zero, List.set_cons_succ]
        refine wpAnyH_done (by kernel_rfl) ?_ _
        have ch : Chg (fun b => b = w1.heap.size) w3 (w3.setCell ⟨w1.heap.size, 1, none⟩ (.slice Av3 (L.length + 1) cv3)) := Chg.set (w := w3) ⟨w1.heap.size, 1, none⟩ (.slice Av3 (L.length + 1) cv3)
        have bF : Box (w3.setCell ⟨w1.heap.size, 1, none⟩ (.slice Av3 (L.length + 1) cv3)) w1.heap.size 30 #[.slice Av0 z.1.length cv0, .slice Av3 (L.length + 1) cv3] := bR3.set_ 1 (.slice Av3 (L.length + 1) cv3)
        have hs2 := hb2.size
        have hs3 := hb3.size
        have hbF : Below w1.heap.size w1 (w3.setCell ⟨w1.heap.size, 1, none⟩ (.slice Av3 (L.length + 1) cv3)) := (hbr.trans ((hb2.mono (by omega)).trans (hb3.mono (by omega)))).trans (ch.below (by omega) (fun b hb => by omega))
        have fin : OArn (w3.setCell ⟨w1.heap.size, 1, none⟩ (.slice Av3 (L.length + 1) cv3)) (w1.heap.size + 1) (.slice none 0 0) (.slice Av3 (L.length + 1) cv3) ([], L ++ [gl z.2 k]) := by have h := ho3.chg ch (fun b hb => by omega); simpa using h
        have hsF := ch.size
        go_wp2
        go_roundw
        case rel => exact ⟨k + 1, _, _, by omega, by go_num, by rw [hX.out, ← HLk.out], fin, bF, hbF, by omega⟩
        case measure => simp [intOf]; omega
      · go_simp
        refine hK.out _ _ (⟨keepA g1, keepA hc⟩) (fun hHeld => ?_)
        clear hK K
        try simp only [Act.put, List.setIfInBounds_toArray, List.set_cons_zero, List.set_cons_succ]
        refine twoH_1_8 (by kernel_rfl) (fun K hK => ?_) (fun K hK => ?_)
        · go_simp
          refine hK.out _ _ (⟨keepA g1, keepA hc⟩) (fun hHeld => ?_)
          clear hK K
          try simp only [Act.put, List.setIfInBounds_toArray, List.set_cons_zero, List.set_cons_succ]
          refine callH8 (by kernel_rfl) (fun K hK => ?_)
          refine step_of_list (by rfl) (wp_appI (.tmp 19) (.tmp 24) (by rfl) (wD.alloc (.cells #[] 2)) wD.heap.size (.slice (some ⟨wD.heap.size, 0, none⟩) 0 0) [] (by rfl) hem A4 n4 c4 (gl z.2 k) (by rfl) hrE (by simp) (by omega) hbE.size ?_)
          intro u2 w2 ho2 hb2' hc2 hat2
          rw [List.nil_append] at ho2
          obtain ⟨Au, cu, rfl⟩ := ho2.form
          have hb2 : Below wD.heap.size wD w2 := hbE.trans hb2'
          have bX2 := bX.below hb2 (by omega)
          have bR2 := bR.below hb2 (by omega)
          have S1 : w2.cell? ⟨w.heap.size, 1, none⟩ = some (.slice (some ⟨bb, off, none⟩) n1 c1) := bX2.d1
          have S2 : w2.cell? ⟨bb, off + k, none⟩ = some (.slice A4 n4 c4) := (hb2.cell (by show bb < _; omega)).trans hc
          have k2 := bR2.d1
          have k2' : ∀ o, (w2.alloc o).cell? ⟨w1.heap.size, 1, none⟩ = some (.slice Av L.length cv) := fun o => keepA k2
          refine hK.out _ _ (⟨S1, S2⟩) (fun hHeld => ?_)
          clear hK K
          try simp only [Act.put, List.setIfInBounds_toArray, List.set_cons_zero, List.set_cons_succ]
          refine callH9 (by kernel_rfl) (fun K hK => ?_)
          go_simp
          refine hK.out _ _ (⟨keepA S1, keepA S2⟩) (fun hHeld => ?_)
          clear hK K
          try simp only [Act.put, List.setIfInBounds_toArray, List.set_cons_zero, List.set_cons_succ]
          refine callH10 (by kernel_rfl) (fun K hK => ?_)
          refine step_of_list (by rfl) (wp_pushN (.tmp 18) (.tmp 26) (by rfl) wD w2 (w1.heap.size + 1) (.slice none 0 0) (.slice Av L.length cv) ([], L) (.slice Au (gl z.2 k).length cu) (gl z.2 k) (by rfl) (by rfl) hsr ho hb2 ho2 hlen ?_)
          intro v3 w3 ho3 hb3 hc3 hat3
          obtain ⟨_, _, Av3, cv3, h0e3, h1e3⟩ := ho3.form
          clear h0e3 hat3
          have h1e : v3 = .slice Av3 (L.length + 1) cv3 := by rw [h1e3]; simp
          subst h1e
          clear h1e3
          have bX3 := bX2.below hb3 (by omega)
          have bR3 := bR2.below hb3 (by omega)
          have S31 : w3.cell? ⟨w.heap.size, 1, none⟩ = some (.slice (some ⟨bb, off, none⟩) n1 c1) := bX3.d1
          have S32 : w3.cell? ⟨bb, off + k, none⟩ = some (.slice A4 n4 c4) := (hb3.cell (by show bb < _; omega)).trans S2
          have T1 := bR3.d1
          have F1 := bR3.hot 1
          refine hK.out _ _ (⟨S31, S32⟩) (fun hHeld => ?_)
          clear hK K
          try simp only [Act.put, List.setIfInBounds_toArray, List.set_cons_zero, List.set_cons_succ]
          refine takeH11 (v := ?_) (by kernel_rfl) (by kernel_rfl) (by kernel_rfl) (fun _ _ _ h => h) hHeld (by rfl) ?_ ?_
          rotate_left; · (intro w hSw; (try dsimp only at hSw); go_simp; try with_reducible rfl)
          try simp only [Act.put, List.setIfInBounds_toArray, List.set_cons_zero, List.set_cons_succ]
          refine callH12 (by kernel_rfl) (fun K hK => ?_)
          go_simp
          refine hK.out _ _ (⟨keepS S31 (by show w.heap.size ≠ w1.heap.size; omega), keepS S32 (by show bb ≠ w1.heap.size; omega)⟩) (fun hHeld => ?_)
          clear hK K
          try simp only [Act.put, List.setIfInBounds_toArray, List.set_cons_zero, List.set_cons_succ]
          refine wpAnyH_done (by kernel_rfl) ?_ _
          have ch : Chg (fun b => b = w1.heap.size) w3 (w3.setCell ⟨w1.heap.size, 1, none⟩ (.slice Av3 (L.length + 1) cv3)) := Chg.set (w := w3) ⟨w1.heap.size, 1, none⟩ (.slice Av3 (L.length + 1) cv3)
          have bF : Box (w3.setCell ⟨w1.heap.size, 1, none⟩ (.slice Av3 (L.length + 1) cv3)) w1.heap.size 30 #[.slice Av0 z.1.length cv0, .slice Av3 (L.length + 1) cv3] := bR3.set_ 1 (.slice Av3 (L.length + 1) cv3)
          have hs2 := hb2.size
          have hs3 := hb3.size
          have hbF : Below w1.heap.size w1 (w3.setCell ⟨w1.heap.size, 1, none⟩ (.slice Av3 (L.length + 1) cv3)) := (hbr.trans ((hb2.mono (by omega)).trans (hb3.mono (by omega)))).trans (ch.below (by omega) (fun b hb => by omega))
          have fin : OArn (w3.setCell ⟨w1.heap.size, 1, none⟩ (.slice Av3 (L.length + 1) cv3)) (w1.heap.size + 1) (.slice none 0 0) (.slice Av3 (L.length + 1) cv3) ([], L ++ [gl z.2 k]) := by have h := ho3.chg ch (fun b hb => by omega); simpa using h
          have hsF := ch.size
          go_wp2
          go_roundw
          case rel => exact ⟨k + 1, _, _, by omega, by go_num, by rw [hX.out, ← HLk.out], fin, bF, hbF, by omega⟩
          case measure => simp [intOf]; omega
        · refine step_of_list (by rfl) (wp_appI (.tmp 19) (.tmp 24) (by rfl) (wD.alloc (.cells #[] 2)) wD.heap.size (.slice (some ⟨wD.heap.size, 0, none⟩) 0 0) [] (by rfl) hem A4 n4 c4 (gl z.2 k) (by rfl) hrE (by simp) (by omega) hbE.size ?_)
          intro u2 w2 ho2 hb2' hc2 hat2
          rw [List.nil_append] at ho2
          obtain ⟨Au, cu, rfl⟩ := ho2.form
          have hb2 : Below wD.heap.size wD w2 := hbE.trans hb2'
          have bX2 := bX.below hb2 (by omega)
          have bR2 := bR.below hb2 (by omega)
          have S1 : w2.cell? ⟨w.heap.size, 1, none⟩ = some (.slice (some ⟨bb, off, none⟩) n1 c1) := bX2.d1
          have S2 : w2.cell? ⟨bb, off + k, none⟩ = some (.slice A4 n4 c4) := (hb2.cell (by show bb < _; omega)).trans hc
          have k2 := bR2.d1
          have k2' : ∀ o, (w2.alloc o).cell? ⟨w1.heap.size, 1, none⟩ = some (.slice Av L.length cv) := fun o => keepA k2
          refine hK.out _ _ (⟨S1, S2⟩) (fun hHeld => ?_)
          clear hK K
          try simp only [Act.put, List.setIfInBounds_toArray, List.set_cons_zero, List.set_cons_succ]
          refine twoH_1_9 (by kernel_rfl) (fun K hK => ?_) (fun K hK => ?_)
          · go_simp
            refine hK.out _ _ (⟨S1, S2⟩) (fun hHeld => ?_)
            clear hK K
            try simp only [Act.put, List.setIfInBounds_toArray, List.set_cons_zero, List.set_cons_succ]
            refine callH9 (by kernel_rfl) (fun K hK => ?_)
            go_simp
            refine hK.out _ _ (⟨keepA S1, keepA S2⟩) (fun hHeld => ?_)
            clear hK K
            try simp only [Act.put, List.setIfInBounds_toArray, List.set_cons_zero, List.set_cons_succ]
            refine callH10 (by kernel_rfl) (fun K hK => ?_)
            refine step_of_list (by rfl) (wp_pushN (.tmp 18) (.tmp 26) (by rfl) wD w2 (w1.heap.size + 1) (.slice none 0 0) (.slice Av L.length cv) ([], L) (.slice Au (gl z.2 k).length cu) (gl z.2 k) (by rfl) (by rfl) hsr ho hb2 ho2 hlen ?_)
            intro v3 w3 ho3 hb3 hc3 hat3
            obtain ⟨_, _, Av3, cv3, h0e3, h1e3⟩ := ho3.form
            clear h0e3 hat3
            have h1e : v3 = .slice Av3 (L.length + 1) cv3 := by rw [h1e3]; simp
            subst h1e
            clear h1e3
            have bX3 := bX2.below hb3 (by omega)
            have bR3 := bR2.below hb3 (by omega)
            have S31 : w3.cell? ⟨w.heap.size, 1, none⟩ = some (.slice (some ⟨bb, off, none⟩) n1 c1) := bX3.d1
            have S32 : w3.cell? ⟨bb, off + k, none⟩ = some (.slice A4 n4 c4) := (hb3.cell (by show bb < _; omega)).trans S2
            have T1 := bR3.d1
            have F1 := bR3.hot 1
            refine hK.out _ _ (⟨S31, S32⟩) (fun hHeld => ?_)
            clear hK K
            try simp only [Act.put, List.setIfInBounds_toArray, List.set_cons_zero, List.set_cons_succ]
            refine takeH11 (v := ?_) (by kernel_rfl) (by kernel_rfl) (by kernel_rfl) (fun _ _ _ h => h) hHeld (by rfl) ?_ ?_
            rotate_left; · (intro w hSw; (try dsimp only at hSw); go_simp; try with_reducible rfl)
            try simp only [Act.put, List.setIfInBounds_toArray, List.set_cons_zero, List.set_cons_succ]
            refine callH12 (by kernel_rfl) (fun K hK => ?_)
            go_simp
            refine hK.out _ _ (⟨keepS S31 (by show w.heap.size ≠ w1.heap.size; omega), keepS S32 (by show bb ≠ w1.heap.size; omega)⟩) (fun hHeld => ?_)
            clear hK K
            try simp only [Act.put, List.setIfInBounds_toArray, List.set_cons_zero, List.set_cons_succ]
            refine wpAnyH_done (by kernel_rfl) ?_ _
            have ch : Chg (fun b => b = w1.heap.size) w3 (w3.setCell ⟨w1.heap.size, 1, none⟩ (.slice Av3 (L.length + 1) cv3)) := Chg.set (w := w3) ⟨w1.heap.size, 1, none⟩ (.slice Av3 (L.length + 1) cv3)
            have bF : Box (w3.setCell ⟨w1.heap.size, 1, none⟩ (.slice Av3 (L.length + 1) cv3)) w1.heap.size 30 #[.slice Av0 z.1.length cv0, .slice Av3 (L.length + 1) cv3] := bR3.set_ 1 (.slice Av3 (L.length + 1) cv3)
            have hs2 := hb2.size
            have hs3 := hb3.size
            have hbF : Below w1.heap.size w1 (w3.setCell ⟨w1.heap.size, 1, none⟩ (.slice Av3 (L.length + 1) cv3)) := (hbr.trans ((hb2.mono (by omega)).trans (hb3.mono (by omega)))).trans (ch.below (by omega) (fun b hb => by omega))
            have fin : OArn (w3.setCell ⟨w1.heap.size, 1, none⟩ (.slice Av3 (L.length + 1) cv3)) (w1.heap.size + 1) (.slice none 0 0) (.slice Av3 (L.length + 1) cv3) ([], L ++ [gl z.2 k]) := by have h := ho3.chg ch (fun b hb => by omega); simpa using h
            have hsF := ch.size
            go_wp2
            go_roundw
            case rel => exact ⟨k + 1, _, _, by omega, by go_num, by rw [hX.out, ← HLk.out], fin, bF, hbF, by omega⟩
            case measure => simp [intOf]; omega
          · go_simp
            refine hK.out _ _ (⟨keepA S1, keepA S2⟩) (fun hHeld => ?_)
            clear hK K
            try simp only [Act.put, List.setIfInBounds_toArray, List.set_cons_zero, List.set_cons_succ]
            refine callH1 (by kernel_rfl) (fun K hK => ?_)
            go_simp
            refine hK.out _ _ (⟨keepA S1, keepA S2⟩) (fun hHeld => ?_)
            clear hK K
            try simp only [Act.put, List.setIfInBounds_toArray, List.set_cons_zero, List.set_cons_succ]
            refine callH10 (by kernel_rfl) (fun K hK => ?_)
            refine step_of_list (by rfl) (wp_pushN (.tmp 18) (.tmp 26) (by rfl) wD w2 (w1.heap.size + 1) (.slice none 0 0) (.slice Av L.length cv) ([], L) (.slice Au (gl z.2 k).length cu) (gl z.2 k) (by rfl) (by rfl) hsr ho hb2 ho2 hlen ?_)
            intro v3 w3 ho3 hb3 hc3 hat3
            obtain ⟨_, _, Av3, cv3, h0e3, h1e3⟩ := ho3.form
            clear h0e3 hat3
            have h1e : v3 = .slice Av3 (L.length + 1) cv3 := by rw [h1e3]; simp
            subst h1e
            clear h1e3
            have bX3 := bX2.below hb3 (by omega)
            have bR3 := bR2.below hb3 (by omega)
            have S31 : w3.cell? ⟨w.heap.size, 1, none⟩ = some (.slice (some ⟨bb, off, none⟩) n1 c1) := bX3.d1
            have S32 : w3.cell? ⟨bb, off + k, none⟩ = some (.slice A4 n4 c4) := (hb3.cell (by show bb < _; omega)).trans S2
            have T1 := bR3.d1
            have F1 := bR3.hot 1
            refine hK.out _ _ (⟨S31, S32⟩) (fun hHeld => ?_)
            clear hK K
            try simp only [Act.put, List.setIfInBounds_toArray, List.set_cons_zero, List.set_cons_succ]
            refine takeH11 (v := ?_) (by kernel_rfl) (by kernel_rfl) (by kernel_rfl) (fun _ _ _ h => h) hHeld (by rfl) ?_ ?_
            rotate_left; · (intro w hSw; (try dsimp only at hSw); go_simp; try with_reducible rfl)
            try simp only [Act.put, List.setIfInBounds_toArray, List.set_cons_zero, List.set_cons_succ]
            refine callH12 (by kernel_rfl) (fun K hK => ?_)
            go_simp
            refine hK.out _ _ (⟨keepS S31 (by show w.heap.size ≠ w1.heap.size; omega), keepS S32 (by show bb ≠ w1.heap.size; omega)⟩) (fun hHeld => ?_)
            clear hK K
            try simp only [Act.put, List.setIfInBounds_toArray, List.set_cons_zero, List.set_cons_succ]
            refine wpAnyH_done (by kernel_rfl) ?_ _
            have ch : Chg (fun b => b = w1.heap.size) w3 (w3.setCell ⟨w1.heap.size, 1, none⟩ (.slice Av3 (L.length + 1) cv3)) := Chg.set (w := w3) ⟨w1.heap.size, 1, none⟩ (.slice Av3 (L.length + 1) cv3)
            have bF : Box (w3.setCell ⟨w1.heap.size, 1, none⟩ (.slice Av3 (L.length + 1) cv3)) w1.heap.size 30 #[.slice Av0 z.1.length cv0, .slice Av3 (L.length + 1) cv3] := bR3.set_ 1 (.slice Av3 (L.length + 1) cv3)
            have hs2 := hb2.size
            have hs3 := hb3.size
            have hbF : Below w1.heap.size w1 (w3.setCell ⟨w1.heap.size, 1, none⟩ (.slice Av3 (L.length + 1) cv3)) := (hbr.trans ((hb2.mono (by omega)).trans (hb3.mono (by omega)))).trans (ch.below (by omega) (fun b hb => by omega))
            have fin : OArn (w3.setCell ⟨w1.heap.size, 1, none⟩ (.slice Av3 (L.length + 1) cv3)) (w1.heap.size + 1) (.slice none 0 0) (.slice Av3 (L.length + 1) cv3) ([], L ++ [gl z.2 k]) := by have h := ho3.chg ch (fun b hb => by omega); simpa using h
            have hsF := ch.size
            go_wp2
            go_roundw
            case rel => exact ⟨k + 1, _, _, by omega, by go_num, by rw [hX.out, ← HLk.out], fin, bF, hbF, by omega⟩
            case measure => simp [intOf]; omega
    · obtain rfl : k = n1 := by omega
      have HE := Lib.hid (show z.2.take k = z.2 from List.take_of_length_le (by rw [HM.out]; omega))
      have p0 := bR.d0
      have p1 := bR.d1
      have brX := br1.below hbr (by omega)
      have e0 := brX.d0
      have e1 := brX.d1
      have f0 := brX.hot 0
      have f1 := brX.hot 1
      have ch : Chg (fun b => b = w.heap.size + 1) wr ((wr.setCell ⟨w.heap.size + 1, 0, none⟩ (.slice Av0 z.1.length cv0)).setCell ⟨w.heap.size + 1, 1, none⟩ (.slice Av L.length cv)) := (Chg.set (w := wr) ⟨w.heap.size + 1, 0, none⟩ (.slice Av0 z.1.length cv0)).trans (Chg.set ⟨w.heap.size + 1, 1, none⟩ (.slice Av L.length cv)) (U := fun b => b = w.heap.size + 1) (fun _ h => h) (fun _ h => h)
      have bF : Box ((wr.setCell ⟨w.heap.size + 1, 0, none⟩ (.slice Av0 z.1.length cv0)).setCell ⟨w.heap.size + 1, 1, none⟩ (.slice Av L.length cv)) (w.heap.size + 1) 30 #[.slice Av0 z.1.length cv0, .slice Av L.length cv] := (brX.set_ 0 (.slice Av0 z.1.length cv0)).set_ 1 (.slice Av L.length cv)
      have R0 := bF.d0
      have R1 := bF.d1
      have ho0 := (ho1.below hbr).more (lo' := w.heap.size + 2) hsL
      have hoE : OArn wr (w1.heap.size + 1) (.slice none 0 0) (.slice Av L.length cv) ([], z.2) := by rw [← HE.out, ← HLk.out]; exact ho
      have fo : OArn wr (w.heap.size + 2) (.slice Av0 z.1.length cv0) (.slice Av L.length cv) (z.1, z.2) := OArn.join hoE (Far.refl _ _) ho0 (by omega) (fun b hb => .inl (by have := (ho1.lt b hb).2; omega))
      have hwF : Below w.heap.size w ((wr.setCell ⟨w.heap.size + 1, 0, none⟩ (.slice Av0 z.1.length cv0)).setCell ⟨w.heap.size + 1, 1, none⟩ (.slice Av L.length cv)) := ((hwL.trans (hb1.mono (by omega))).trans (hbr.mono (by omega))).trans (ch.below (by omega) (fun b hb => by omega))
      have fin := fo.chg ch (fun b hb => by omega)
      go_wp2
      exact bodyPost_ret (v := .agg #[.slice Av0 z.1.length cv0, .slice Av L.length cv]) (by simp [results, Tryz.results9, go_sem, R0, R1]) rfl ⟨_, _, rfl, fin.more (by omega), hwF.mono hB⟩
end Go.Proofs.YtjjaolndencplaaGreat
namespace Go.Proofs.YtjjaolndencplaaGreat
open Go.RowKit

abbrev TwoD := List Int × List Int
def RTv (w : World) (s0 s1 : Value) (z : TwoD) : Prop := RIv w s0 z.1 ∧ RIv w s1 z.2
def OT (w : World) (lo : Nat) (s0 s1 : Value) (z : TwoD) : Prop := OI 2 w lo s0 z.1 ∧ OI 2 w lo s1 z.2 ∧ Apart s0 s1
section
variable {w w' wb : World} {lo lo' : Nat} {s0 s1 : Value} {z : TwoD} {A0 A1 : Option Addr} {n0 c0 n1 c1 : Nat}
theorem RTv.keep (h : RTv w s0 s1 z) (k : Keeps w w') : RTv w' s0 s1 z := ⟨h.1.keep k, h.2.keep k⟩
theorem RTv.form (h : RTv w s0 s1 z) : ∃ A0 n0 c0 A1 n1 c1, s0 = .slice A0 n0 c0 ∧ s1 = .slice A1 n1 c1 := by
  obtain ⟨⟨A, m, c, e, _⟩, A', m', c', e', _⟩ := h
  exact ⟨A, m, c, A', m', c', e, e'⟩
theorem RTv.r1 (h : RTv w (.slice A0 n0 c0) (.slice A1 n1 c1) z) : RI w A0 n0 c0 z.1 := by
  obtain ⟨⟨A, m, c, e, hr⟩, _⟩ := h
  injection e with e1 e2 e3
  subst e1; subst e2; subst e3
  exact hr
theorem RTv.r2 (h : RTv w (.slice A0 n0 c0) (.slice A1 n1 c1) z) : RI w A1 n1 c1 z.2 := by
  obtain ⟨_, A, m, c, e, hr⟩ := h
  injection e with e1 e2 e3
  subst e1; subst e2; subst e3
  exact hr
theorem RTv.of (h : RI w A0 n0 c0 z.1) (k : RI w A1 n1 c1 z.2) : RTv w (.slice A0 n0 c0) (.slice A1 n1 c1) z := ⟨⟨_, _, _, rfl, h⟩, _, _, _, rfl, k⟩
theorem OT.form (h : OT w lo s0 s1 z) : ∃ A0 c0 A1 c1, s0 = .slice A0 z.1.length c0 ∧ s1 = .slice A1 z.2.length c1 := by
  obtain ⟨A0, c0, e0⟩ := h.1.form
  obtain ⟨A1, c1, e1⟩ := h.2.1.form
  exact ⟨A0, c0, A1, c1, e0, e1⟩
theorem OT.reads (h : OT w lo s0 s1 z) : RTv w s0 s1 z := ⟨h.1.rv, h.2.1.rv⟩
theorem OT.hold (h : OT wb lo s0 s1 z) (f : Far lo wb w) : OT w lo s0 s1 z := ⟨h.1.hold f, h.2.1.hold f, h.2.2⟩
theorem OT.below (h : OT w lo s0 s1 z) (hb : Below w.heap.size w w') : OT w' lo s0 s1 z := ⟨h.1.below hb, h.2.1.below hb, h.2.2⟩
theorem OT.more (h : OT w lo s0 s1 z) (hl : lo' ≤ lo) : OT w lo' s0 s1 z := ⟨h.1.more hl, h.2.1.more hl, h.2.2⟩
theorem OT.nil (w : World) (lo : Nat) : OT w lo (.slice none 0 0) (.slice none 0 0) ([], []) := ⟨OI.nil _ _ _, OI.nil _ _ _, .inl rfl⟩
end
end Go.Proofs.YtjjaolndencplaaGreat
