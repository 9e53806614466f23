/- Plans and plays: l5Plan, PlanOk, FullIn, l1There, l1Place, PlayOf; w6Other, w6Meets, w6Full. Plays: PlayOf; w6Other, w6Meets, w6Full. -/
import Derived.Test.YtlmhhnplacejkaaArn
import Derived.Test.YtlmhhnplacejkaaOft
import Derived.Test.YtlmhhnplacejkaaHand
import Derived.Test.YtlmhhnplacejkaaCut
namespace Go.Proofs.Ytlmhhnplacejkaa
open Go.RowKit

/-- a plan of who; a full one -/
def fineP (o : List Int) (n : List (List Int)) (who : Int) (p : List Int) : Prop := p.length = o.length ∧ ∀ v, v < o.length → gi p v = -1 ∨ (gi o v = who ∧ hasL (gl n v) (gi p v) = true)
def fullP (o : List Int) (n : List (List Int)) (who : Int) (p : List Int) : Prop := p.length = o.length ∧ ∀ v, v < o.length → (gi o v = who → hasL (gl n v) (gi p v) = true) ∧ (¬ gi o v = who → gi p v = -1)
theorem fullP.fine {o : List Int} {n : List (List Int)} {who : Int} {p : List Int} (h : fullP o n who p) : fineP o n who p :=
  ⟨h.1, fun v hv => by
    by_cases e : gi o v = who
    · exact .inr ⟨e, (h.2 v hv).1 e⟩
    · exact .inl ((h.2 v hv).2 e)⟩
theorem row_has {o : List Int} {n : List (List Int)} (hf : fineAr o n) {v : Nat} (hv : v < o.length) {x : Int} (h : hasL (gl n v) x = true) : 0 ≤ x ∧ x < (o.length : Int) := set_mem (hf.2.2.2 v hv).2.2 (hasL_iff.1 h)

set_option maxRecDepth 100000 in
set_option maxHeartbeats 800000 in
theorem l5Plan (A0 A1 C : Option Addr) (n0 c0 n1 c1 m d : Nat) (o : List Int) (n : List (List Int)) (who : Int) (p : List Int) (w : World) (B : Nat) (hB : B ≤ w.heap.size) (ha : RI w A0 n0 c0 o) (hb : RII w A1 n1 c1 n) (hp : RI w C m d p) (hf : fineAr o n) (hfp : fineP o n who p) :
    Calls Try.prog 179 #[.agg #[.slice A0 n0 c0, .slice A1 n1 c1], .int .i64 who, .slice C m d] w fun e w' => e = .returned (.bool true) ∧ Below B w w' := by
  have HL := Lib.hid ha.len; have HM := Lib.hid hb.len
  have hn0 : n0 ≤ 256 := by have := hf.2.1; rw [HL.out] at this; omega
  have h01 : n1 = n0 := by rw [← HM.out, hf.2.2.1, HL.out]
  have HF := Lib.hid hf
  have H01 := Lib.hid h01
  have hn1 : n1 ≤ 256 := by omega
  clear h01
  have b1 := ha.cap; have b2 := ha.top; have b3 := hb.cap; have b4 := hb.top
  have hba : Below w.heap.size w (w.alloc (.cells #[.slice A0 n0 c0, .slice A1 n1 c1] 30)) := below_alloc (Nat.le_refl _) (Below.refl _ _)
  have bx := Box.new w 30 #[.slice A0 n0 c0, .slice A1 n1 c1]
  have hpl : m = n0 := by rw [← hp.len, hfp.1, HL.out]
  subst hpl
  have HP := Lib.hid hfp
  have b5 := hp.cap; have b6 := hp.top
  clear hfp
  have q0 := bx.d0
  go_enter Try.func179, Try.ntmps179
  go_wp2
  clear q0
  go_loopw [7] (fun i wr => ∃ k : Nat, k ≤ m ∧ i = .int .i64 k ∧ Box wr w.heap.size 30 #[.slice A0 m c0, .slice A1 n1 c1] ∧ Below w.heap.size w wr) (fun i _ => m - (intOf i).toNat)
  case atStart => exact ⟨0, Nat.zero_le _, rfl, bx, hba⟩
  case round =>
    clear bx hba
    obtain ⟨k, hk, rfl, bx, hq⟩ := hrel
    have q0 := bx.d0; have q1 := bx.d1
    by_cases hkl : k < m
    · obtain ⟨bp, op, rfl, hcP⟩ := hp.at_ hkl
      obtain ⟨bo, oo, rfl, hcO⟩ := ha.at_ hkl
      obtain ⟨bn, on, An, nn, cn, rfl, hcN, rn⟩ := hb.at_ (show k < n1 by have := H01.out; omega)
      have kO := keeps_below hq _ _ hcO; have kN := keeps_below hq _ _ hcN; have kP := keeps_below hq _ _ hcP
      have hrow := rn.keep (keeps_below hq)
      have hki : (k : Int) < (m : Int) := by omega
      have hki1 : (k : Int) < (n1 : Int) := by have := H01.out; omega
      have hk0 : (0 : Int) ≤ (k : Int) := by omega
      have hcase := HP.out.2 k (by rw [HL.out]; exact hkl)
      by_cases hneg : gi p k = -1
      · have e1 : (gi p k != -1) = false := by simp [hneg]
        clear hneg hcase
        go_wp2_with fail
        refine wp_region_held_drew (S := (fun w' => w'.cell? ⟨w.heap.size, 0, none⟩ = some (.slice (some ⟨bo, oo, none⟩) m c0) ∧ w'.cell? ⟨w.heap.size, 1, none⟩ = some (.slice (some ⟨bn, on, none⟩) n1 c1) ∧ w'.cell? ⟨bo, oo + k, none⟩ = some (.int .i64 (gi o k)) ∧ w'.cell? ⟨bn, on + k, none⟩ = some (.slice An nn cn) ∧ w'.cell? ⟨bp, op + k, none⟩ = some (.int .i64 (gi p k)))) (by kernel_rfl) (⟨q0, q1, kO, kN, kP⟩) (fun hHeld => ?_)
        refine takeH0 (v := ?_) (by kernel_rfl) (by kernel_rfl) (by kernel_rfl) (fun _ _ _ h => h) hHeld (by rfl) ?_ ?_
        rotate_left; · (intro w hSw; (try dsimp only at hSw); go_simp; try with_reducible rfl)
        try simp only [Act.put, List.setIfInBounds_toArray, List.set_cons_zero, List.set_cons_succ]
        refine takeH1 (v := ?_) (by kernel_rfl) (by kernel_rfl) (by kernel_rfl) (fun _ _ _ h => h) hHeld (by rfl) ?_ ?_
        rotate_left; · (intro w hSw; (try dsimp only at hSw); go_simp; try with_reducible rfl)
        try simp only [Act.put, List.setIfInBounds_toArray, List.set_cons_zero, List.set_cons_succ]
        refine takeH2 (v := ?_) (by kernel_rfl) (by kernel_rfl) (by kernel_rfl) (fun _ _ _ h => h) hHeld (by rfl) ?_ ?_
        rotate_left; · (intro w hSw; (try dsimp only at hSw); go_simp; try with_reducible rfl)
        try simp only [Act.put, List.setIfInBounds_toArray, List.set_cons_zero, List.set_cons_succ]
        refine takeH3 (v := ?_) (by kernel_rfl) (by kernel_rfl) (by kernel_rfl) (fun _ _ _ h => h) hHeld (by rfl) ?_ ?_
        rotate_left; · (intro w hSw; (try dsimp only at hSw); go_simp; try with_reducible rfl)
        try simp only [Act.put, List.setIfInBounds_toArray, List.set_cons_zero, List.set_cons_succ]
        refine takeH4 (v := ?_) (by kernel_rfl) (by kernel_rfl) (by kernel_rfl) (fun _ _ _ h => h) hHeld (by rfl) ?_ ?_
        rotate_left; · (intro w hSw; (try dsimp only at hSw); go_simp; try with_reducible rfl)
        try simp only [Act.put, List.setIfInBounds_toArray, List.set_cons_zero, List.set_cons_succ]
        refine takeH5 (v := ?_) (by kernel_rfl) (by kernel_rfl) (by kernel_rfl) (fun _ _ _ h => h) hHeld (by rfl) ?_ ?_
        rotate_left; · (intro w hSw; (try dsimp only at hSw); go_simp; try with_reducible rfl)
        try simp only [Act.put, List.setIfInBounds_toArray, List.set_cons_zero, List.set_cons_succ]
        refine skipH6 (by kernel_rfl) (by kernel_rfl) (by kernel_rfl) (fun _ _ _ h => h) hHeld (by rfl) ?_
        try simp only [Act.put, List.setIfInBounds_toArray, List.set_cons_zero, List.set_cons_succ]
        refine skipH7 (by kernel_rfl) (by kernel_rfl) (by kernel_rfl) (fun _ _ _ h => h) hHeld (by rfl) ?_
        try simp only [Act.put, List.setIfInBounds_toArray, List.set_cons_zero, List.set_cons_succ]
        refine skipH8 (by kernel_rfl) (by kernel_rfl) (by kernel_rfl) (fun _ _ _ h => h) hHeld (by rfl) ?_
        try simp only [Act.put, List.setIfInBounds_toArray, List.set_cons_zero, List.set_cons_succ]
        refine skipH9 (by kernel_rfl) (by kernel_rfl) (by kernel_rfl) (fun _ _ _ h => h) hHeld (by rfl) ?_
        try simp only [Act.put, List.setIfInBounds_toArray, List.set_cons_zero, List.set_cons_succ]
        refine skipH10 (by kernel_rfl) (by kernel_rfl) (by kernel_rfl) (fun _ _ _ h => h) hHeld (by rfl) ?_
        try simp only [Act.put, List.setIfInBounds_toArray, List.set_cons_zero, List.set_cons_succ]
        refine skipH11 (by kernel_rfl) (by kernel_rfl) (by kernel_rfl) (fun _ _ _ h => h) hHeld (by rfl) ?_
        try simp only [Act.put, List.setIfInBounds_toArray, List.set_cons_zero, List.set_cons_succ]
        refine skipH12 (by kernel_rfl) (by kernel_rfl) (by kernel_rfl) (fun _ _ _ h => h) hHeld (by rfl) ?_
        try simp only [Act.put, List.setIfInBounds_toArray, List.set_cons_zero, List.set_cons_succ]
        refine skipH13 (by kernel_rfl) (by kernel_rfl) (by kernel_rfl) (fun _ _ _ h => h) hHeld (by rfl) ?_
        try simp only [Act.put, List.setIfInBounds_toArray, List.set_cons_zero, List.set_cons_succ]
        refine skipH14 (by kernel_rfl) (by kernel_rfl) (by kernel_rfl) (fun _ _ _ h => h) hHeld (by rfl) ?_
        try simp only [Act.put, List.setIfInBounds_toArray, List.set_cons_zero, List.set_cons_succ]
        refine skipH15 (by kernel_rfl) (by kernel_rfl) (by kernel_rfl) (fun _ _ _ h => h) hHeld (by rfl) ?_
        try simp only [Act.put, List.setIfInBounds_toArray, List.set_cons_zero, List.set_cons_succ]
        refine skipH16 (by kernel_rfl) (by kernel_rfl) (by kernel_rfl) (fun _ _ _ h => h) hHeld (by rfl) ?_
        try simp only [Act.put, List.setIfInBounds_toArray, List.set_cons_zero, List.set_cons_succ]
        refine skipH17 (by kernel_rfl) (by kernel_rfl) (by kernel_rfl) (fun _ _ _ h => h) hHeld (by rfl) ?_
        try simp only [Act.put, List.setIfInBounds_toArray, List.set_cons_zero, List.set_cons_succ]
        refine skipH18 (by kernel_rfl) (by kernel_rfl) (by kernel_rfl) (fun _ _ _ h => h) hHeld (by rfl) ?_
        try simp only [Act.put, List.setIfInBounds_toArray, List.set_cons_zero, List.set_cons_succ]
        refine skipH19 (by kernel_rfl) (by kernel_rfl) (by kernel_rfl) (fun _ _ _ h => h) hHeld (by rfl) ?_
        try simp only [Act.put, List.setIfInBounds_toArray, List.set_cons_zero, List.set_cons_succ]
        refine skipH20 (by kernel_rfl) (by kernel_rfl) (by kernel_rfl) (fun _ _ _ h => h) hHeld (by rfl) ?_
        try simp only [Act.put, List.setIfInBounds_toArray, List.set_cons_zero, List.set_cons_succ]
        refine skipH21 (by kernel_rfl) (by kernel_rfl) (by kernel_rfl) (fun _ _ _ h => h) hHeld (by rfl) ?_
        try simp only [Act.put, List.setIfInBounds_toArray, List.set_cons_zero, List.set_cons_succ]
        refine skipH22 (by kernel_rfl) (by kernel_rfl) (by kernel_rfl) (fun _ _ _ h => h) hHeld (by rfl) ?_
        try simp only [Act.put, List.setIfInBounds_toArray, List.set_cons_zero, List.set_cons_succ]
        refine skipH23 (by kernel_rfl) (by kernel_rfl) (by kernel_rfl) (fun _ _ _ h => h) hHeld (by rfl) ?_
        try simp only [Act.put, List.setIfInBounds_toArray, List.set_cons_zero, List.set_cons_succ]
        refine skipH24 (by kernel_rfl) (by kernel_rfl) (by kernel_rfl) (fun _ _ _ h => h) hHeld (by rfl) ?_
        try simp only [Act.put, List.setIfInBounds_toArray, List.set_cons_zero, List.set_cons_succ]
        refine skipH25 (by kernel_rfl) (by kernel_rfl) (by kernel_rfl) (fun _ _ _ h => h) hHeld (by rfl) ?_
        try simp only [Act.put, List.setIfInBounds_toArray, List.set_cons_zero, List.set_cons_succ]
        refine takeH26 (v := ?_) (by kernel_rfl) (by kernel_rfl) (by kernel_rfl) (fun _ _ _ h => h) hHeld (by rfl) ?_ ?_
        rotate_left; · (intro w hSw; (try dsimp only at hSw); go_simp; try with_reducible rfl)
        try simp only [Act.put, List.setIfInBounds_toArray, List.set_cons_zero, List.set_cons_succ]
        refine wpAnyH_done (by kernel_rfl) ?_ _
        go_wp2
        go_roundw
        case rel => exact ⟨k + 1, by omega, by go_num, bx, Below.drew hq⟩
        case measure => simp [intOf]; omega
      · obtain ⟨hown, hhas⟩ := hcase.resolve_left hneg
        have e1 : (gi p k != -1) = true := by simp [hneg]
        have e2 : (gi o k != who) = false := by simp [hown]
        have HH := Lib.hid hhas
        clear hneg hown hhas hcase
        go_wp2_with fail
        refine wp_region_held_drew (S := (fun w' => w'.cell? ⟨w.heap.size, 0, none⟩ = some (.slice (some ⟨bo, oo, none⟩) m c0) ∧ w'.cell? ⟨w.heap.size, 1, none⟩ = some (.slice (some ⟨bn, on, none⟩) n1 c1) ∧ w'.cell? ⟨bo, oo + k, none⟩ = some (.int .i64 (gi o k)) ∧ w'.cell? ⟨bn, on + k, none⟩ = some (.slice An nn cn) ∧ w'.cell? ⟨bp, op + k, none⟩ = some (.int .i64 (gi p k)))) (by kernel_rfl) (⟨q0, q1, kO, kN, kP⟩) (fun hHeld => ?_)
        refine takeH0 (v := ?_) (by kernel_rfl) (by kernel_rfl) (by kernel_rfl) (fun _ _ _ h => h) hHeld (by rfl) ?_ ?_
        rotate_left; · (intro w hSw; (try dsimp only at hSw); go_simp; try with_reducible rfl)
        try simp only [Act.put, List.setIfInBounds_toArray, List.set_cons_zero, List.set_cons_succ]
        refine takeH1 (v := ?_) (by kernel_rfl) (by kernel_rfl) (by kernel_rfl) (fun _ _ _ h => h) hHeld (by rfl) ?_ ?_
        rotate_left; · (intro w hSw; (try dsimp only at hSw); go_simp; try with_reducible rfl)
        try simp only [Act.put, List.setIfInBounds_toArray, List.set_cons_zero, List.set_cons_succ]
        refine takeH2 (v := ?_) (by kernel_rfl) (by kernel_rfl) (by kernel_rfl) (fun _ _ _ h => h) hHeld (by rfl) ?_ ?_
        rotate_left; · (intro w hSw; (try dsimp only at hSw); go_simp; try with_reducible rfl)
        try simp only [Act.put, List.setIfInBounds_toArray, List.set_cons_zero, List.set_cons_succ]
        refine takeH3 (v := ?_) (by kernel_rfl) (by kernel_rfl) (by kernel_rfl) (fun _ _ _ h => h) hHeld (by rfl) ?_ ?_
        rotate_left; · (intro w hSw; (try dsimp only at hSw); go_simp; try with_reducible rfl)
        try simp only [Act.put, List.setIfInBounds_toArray, List.set_cons_zero, List.set_cons_succ]
        refine takeH4 (v := ?_) (by kernel_rfl) (by kernel_rfl) (by kernel_rfl) (fun _ _ _ h => h) hHeld (by rfl) ?_ ?_
        rotate_left; · (intro w hSw; (try dsimp only at hSw); go_simp; try with_reducible rfl)
        try simp only [Act.put, List.setIfInBounds_toArray, List.set_cons_zero, List.set_cons_succ]
        refine takeH5 (v := ?_) (by kernel_rfl) (by kernel_rfl) (by kernel_rfl) (fun _ _ _ h => h) hHeld (by rfl) ?_ ?_
        rotate_left; · (intro w hSw; (try dsimp only at hSw); go_simp; try with_reducible rfl)
        try simp only [Act.put, List.setIfInBounds_toArray, List.set_cons_zero, List.set_cons_succ]
        refine takeH6 (v := ?_) (by kernel_rfl) (by kernel_rfl) (by kernel_rfl) (fun _ _ _ h => h) hHeld (by rfl) ?_ ?_
        rotate_left; · (intro w hSw; (try dsimp only at hSw); go_simp; try with_reducible rfl)
        try simp only [Act.put, List.setIfInBounds_toArray, List.set_cons_zero, List.set_cons_succ]
        refine takeH7 (v := ?_) (by kernel_rfl) (by kernel_rfl) (by kernel_rfl) (fun _ _ _ h => h) hHeld (by rfl) ?_ ?_
        rotate_left; · (intro w hSw; (try dsimp only at hSw); go_simp; try with_reducible rfl)
        try simp only [Act.put, List.setIfInBounds_toArray, List.set_cons_zero, List.set_cons_succ]
        refine takeH8 (v := ?_) (by kernel_rfl) (by kernel_rfl) (by kernel_rfl) (fun _ _ _ h => h) hHeld (by rfl) ?_ ?_
        rotate_left; · (intro w hSw; (try dsimp only at hSw); go_simp; try with_reducible rfl)
        try simp only [Act.put, List.setIfInBounds_toArray, List.set_cons_zero, List.set_cons_succ]
        refine takeH9 (v := ?_) (by kernel_rfl) (by kernel_rfl) (by kernel_rfl) (fun _ _ _ h => h) hHeld (by rfl) ?_ ?_
        rotate_left; · (intro w hSw; (try dsimp only at hSw); go_simp; try with_reducible rfl)
        try simp only [Act.put, List.setIfInBounds_toArray, List.set_cons_zero, List.set_cons_succ]
        refine takeH10 (v := ?_) (by kernel_rfl) (by kernel_rfl) (by kernel_rfl) (fun _ _ _ h => h) hHeld (by rfl) ?_ ?_
        rotate_left; · (intro w hSw; (try dsimp only at hSw); go_simp; try with_reducible rfl)
        try simp only [Act.put, List.setIfInBounds_toArray, List.set_cons_zero, List.set_cons_succ]
        refine takeH11 (v := ?_) (by kernel_rfl) (by kernel_rfl) (by kernel_rfl) (fun _ _ _ h => h) hHeld (by rfl) ?_ ?_
        rotate_left; · (intro w hSw; (try dsimp only at hSw); go_simp; try with_reducible rfl)
        try simp only [Act.put, List.setIfInBounds_toArray, List.set_cons_zero, List.set_cons_succ]
        refine takeH12 (v := ?_) (by kernel_rfl) (by kernel_rfl) (by kernel_rfl) (fun _ _ _ h => h) hHeld (by rfl) ?_ ?_
        rotate_left; · (intro w hSw; (try dsimp only at hSw); go_simp; try with_reducible rfl)
        try simp only [Act.put, List.setIfInBounds_toArray, List.set_cons_zero, List.set_cons_succ]
        refine takeH13 (v := ?_) (by kernel_rfl) (by kernel_rfl) (by kernel_rfl) (fun _ _ _ h => h) hHeld (by rfl) ?_ ?_
        rotate_left; · (intro w hSw; (try dsimp only at hSw); go_simp; try with_reducible rfl)
        try simp only [Act.put, List.setIfInBounds_toArray, List.set_cons_zero, List.set_cons_succ]
        refine takeH14 (v := ?_) (by kernel_rfl) (by kernel_rfl) (by kernel_rfl) (fun _ _ _ h => h) hHeld (by rfl) ?_ ?_
        rotate_left; · (intro w hSw; (try dsimp only at hSw); go_simp; try with_reducible rfl)
        try simp only [Act.put, List.setIfInBounds_toArray, List.set_cons_zero, List.set_cons_succ]
        refine takeH15 (v := ?_) (by kernel_rfl) (by kernel_rfl) (by kernel_rfl) (fun _ _ _ h => h) hHeld (by rfl) ?_ ?_
        rotate_left; · (intro w hSw; (try dsimp only at hSw); go_simp; try with_reducible rfl)
        try simp only [Act.put, List.setIfInBounds_toArray, List.set_cons_zero, List.set_cons_succ]
        refine takeH16 (v := ?_) (by kernel_rfl) (by kernel_rfl) (by kernel_rfl) (fun _ _ _ h => h) hHeld (by rfl) ?_ ?_
        rotate_left; · (intro w hSw; (try dsimp only at hSw); go_simp; try with_reducible rfl)
        try simp only [Act.put, List.setIfInBounds_toArray, List.set_cons_zero, List.set_cons_succ]
        refine takeH17 (v := ?_) (by kernel_rfl) (by kernel_rfl) (by kernel_rfl) (fun _ _ _ h => h) hHeld (by rfl) ?_ ?_
        rotate_left; · (intro w hSw; (try dsimp only at hSw); go_simp; try with_reducible rfl)
        try simp only [Act.put, List.setIfInBounds_toArray, List.set_cons_zero, List.set_cons_succ]
        refine takeH18 (v := ?_) (by kernel_rfl) (by kernel_rfl) (by kernel_rfl) (fun _ _ _ h => h) hHeld (by rfl) ?_ ?_
        rotate_left; · (intro w hSw; (try dsimp only at hSw); go_simp; try with_reducible rfl)
        try simp only [Act.put, List.setIfInBounds_toArray, List.set_cons_zero, List.set_cons_succ]
        refine takeH19 (v := ?_) (by kernel_rfl) (by kernel_rfl) (by kernel_rfl) (fun _ _ _ h => h) hHeld (by rfl) ?_ ?_
        rotate_left; · (intro w hSw; (try dsimp only at hSw); go_simp; try with_reducible rfl)
        try simp only [Act.put, List.setIfInBounds_toArray, List.set_cons_zero, List.set_cons_succ]
        refine takeH20 (v := ?_) (by kernel_rfl) (by kernel_rfl) (by kernel_rfl) (fun _ _ _ h => h) hHeld (by rfl) ?_ ?_
        rotate_left; · (intro w hSw; (try dsimp only at hSw); go_simp; try with_reducible rfl)
        try simp only [Act.put, List.setIfInBounds_toArray, List.set_cons_zero, List.set_cons_succ]
        refine takeH21 (v := ?_) (by kernel_rfl) (by kernel_rfl) (by kernel_rfl) (fun _ _ _ h => h) hHeld (by rfl) ?_ ?_
        rotate_left; · (intro w hSw; (try dsimp only at hSw); go_simp; try with_reducible rfl)
        try simp only [Act.put, List.setIfInBounds_toArray, List.set_cons_zero, List.set_cons_succ]
        refine takeH22 (v := ?_) (by kernel_rfl) (by kernel_rfl) (by kernel_rfl) (fun _ _ _ h => h) hHeld (by rfl) ?_ ?_
        rotate_left; · (intro w hSw; (try dsimp only at hSw); go_simp; try with_reducible rfl)
        try simp only [Act.put, List.setIfInBounds_toArray, List.set_cons_zero, List.set_cons_succ]
        refine callH23 (by kernel_rfl) (fun K hK => ?_)
        go_simp
        go_at_call 74
        refine (l1Has _ _ _ (gl n k) _ _ (hrow.keep (keeps_below (Below.drew (Below.refl wr.heap.size wr))))).mono ?_; rintro e w' ⟨rfl, q2, rfl⟩
        rw [HH.out]
        have kP := kP
        go_wp2_with fail
        refine hK.out _ _ (⟨q0, q1, kO, kN, kP⟩) (fun hHeld => ?_)
        clear hK K
        try simp only [Act.put, List.setIfInBounds_toArray, List.set_cons_zero, List.set_cons_succ]
        refine takeH24 (v := ?_) (by kernel_rfl) (by kernel_rfl) (by kernel_rfl) (fun _ _ _ h => h) hHeld (by rfl) ?_ ?_
        rotate_left; · (intro w hSw; (try dsimp only at hSw); go_simp; try with_reducible rfl)
        try simp only [Act.put, List.setIfInBounds_toArray, List.set_cons_zero, List.set_cons_succ]
        refine takeH25 (v := ?_) (by kernel_rfl) (by kernel_rfl) (by kernel_rfl) (fun _ _ _ h => h) hHeld (by rfl) ?_ ?_
        rotate_left; · (intro w hSw; (try dsimp only at hSw); go_simp; try with_reducible rfl)
        try simp only [Act.put, List.setIfInBounds_toArray, List.set_cons_zero, List.set_cons_succ]
        refine takeH26 (v := ?_) (by kernel_rfl) (by kernel_rfl) (by kernel_rfl) (fun _ _ _ h => h) hHeld (by rfl) ?_ ?_
        rotate_left; · (intro w hSw; (try dsimp only at hSw); go_simp; try with_reducible rfl)
        try simp only [Act.put, List.setIfInBounds_toArray, List.set_cons_zero, List.set_cons_succ]
        refine wpAnyH_done (by kernel_rfl) ?_ _
        go_wp2
        go_roundw
        case rel => exact ⟨k + 1, by omega, by go_num, bx, below_drewN hq _⟩
        case measure => simp [intOf]; omega
    · obtain rfl : k = m := by omega
      go_wp2
      go_ret
      exact ⟨rfl, hq.mono hB⟩

set_option maxRecDepth 100000 in
theorem planOk (A0 A1 C : Option Addr) (n0 c0 n1 c1 m d : Nat) (o : List Int) (n : List (List Int)) (who : Int) (p : List Int) (w : World) (B : Nat) (hB : B ≤ w.heap.size) (ha : RI w A0 n0 c0 o) (hb : RII w A1 n1 c1 n) (hp : RI w C m d p) (hf : fineAr o n) (har : arB o n = true) (hw : 0 ≤ who ∧ who ≤ 1) (hfp : fineP o n who p) :
    Calls Try.prog 144 #[.agg #[.slice A0 n0 c0, .slice A1 n1 c1], .int .i64 who, .slice C m d] w fun e w' => e = .returned (.bool true) ∧ Below B w w' := by
  have hba : Below w.heap.size w (w.alloc (.cells #[.slice A0 n0 c0, .slice A1 n1 c1] 30)) := below_alloc (Nat.le_refl _) (Below.refl _ _)
  have bx := Box.new w 30 #[.slice A0 n0 c0, .slice A1 n1 c1]
  have q0 := bx.d0; have q1 := bx.d1
  have EI := Lib.hid (show inR who 0 1 = true from decide_eq_true hw)
  go_enter Try.func144, Try.ntmps144
  go_wp2_with fail
  refine (specArenaOk _ _ _ _ _ _ o n _ _ (Nat.le_refl _) (ha.keep (keeps_below hba)) (hb.keep (keeps_below hba))).mono ?_; rintro e w1 ⟨rfl, hb1⟩
  rw [har]
  have hw1 := below_then hb1 hba.size hba
  replace bx := bx.below hb1 bx.lt
  clear q0 q1
  have q0 := bx.d0; have q1 := bx.d1
  go_wp2_with fail
  refine (l1In _ _ _ _).mono ?_; rintro e w2 ⟨rfl, q2⟩
  rw [EI.out]
  have hb2 := below_qt q2 (Below.refl w1.heap.size w1)
  have hw2 := below_then hb2 hw1.size hw1
  replace bx := bx.below hb2 bx.lt
  clear q0 q1
  have q0 := bx.d0; have q1 := bx.d1
  go_wp2_with fail
  refine (l5Plan _ _ _ _ _ _ _ _ _ o n who p _ _ (Nat.le_refl _) (ha.keep (keeps_below hw2)) (hb.keep (keeps_below hw2)) (hp.keep (keeps_below hw2)) hf hfp).mono ?_; rintro e w3 ⟨rfl, hb3⟩
  have hw3 := below_then hb3 hw2.size hw2
  go_wp2
  go_ret
  exact ⟨rfl, hw3.mono hB⟩

set_option maxRecDepth 100000 in
set_option maxHeartbeats 800000 in
theorem fullIn (A0 A1 C : Option Addr) (n0 c0 n1 c1 m d : Nat) (o : List Int) (n : List (List Int)) (who : Int) (p : List Int) (w : World) (B : Nat) (hB : B ≤ w.heap.size) (ha : RI w A0 n0 c0 o) (hb : RII w A1 n1 c1 n) (hp : RI w C m d p) (hf : fineAr o n) (har : arB o n = true) (hw : 0 ≤ who ∧ who ≤ 1) (hfp : fullP o n who p) :
    Calls Try.prog 72 #[.agg #[.slice A0 n0 c0, .slice A1 n1 c1], .int .i64 who, .slice C m d] w fun e w' => e = .returned (.bool true) ∧ Below B w w' := by
  have HL := Lib.hid ha.len; have HM := Lib.hid hb.len
  have hn0 : n0 ≤ 256 := by have := hf.2.1; rw [HL.out] at this; omega
  have h01 : n1 = n0 := by rw [← HM.out, hf.2.2.1, HL.out]
  have HF := Lib.hid hf
  have H01 := Lib.hid h01
  have hn1 : n1 ≤ 256 := by omega
  clear h01
  have b1 := ha.cap; have b2 := ha.top; have b3 := hb.cap; have b4 := hb.top
  have hba : Below w.heap.size w (w.alloc (.cells #[.slice A0 n0 c0, .slice A1 n1 c1] 30)) := below_alloc (Nat.le_refl _) (Below.refl _ _)
  have bx := Box.new w 30 #[.slice A0 n0 c0, .slice A1 n1 c1]
  have hpl : m = n0 := by rw [← hp.len, hfp.1, HL.out]
  subst hpl
  have HP := Lib.hid hfp
  have b5 := hp.cap; have b6 := hp.top
  have q0 := bx.d0; have q1 := bx.d1
  go_enter Try.func72, Try.ntmps72
  go_wp2_with fail
  refine (planOk _ _ _ _ _ _ _ _ _ o n who p _ _ (Nat.le_refl _) (ha.keep (keeps_below hba)) (hb.keep (keeps_below hba)) (hp.keep (keeps_below hba)) hf har hw hfp.fine).mono ?_; rintro e w1 ⟨rfl, hb1⟩
  have hw1 := below_then hb1 hba.size hba
  replace bx := bx.below hb1 bx.lt
  clear q0 q1 hb1 hfp
  go_wp2
  go_loopw [7] (fun i wr => ∃ k : Nat, k ≤ m ∧ i = .int .i64 k ∧ wr = w1) (fun i _ => m - (intOf i).toNat)
  case atStart => exact ⟨0, Nat.zero_le _, rfl, rfl⟩
  case round =>
    obtain ⟨k, hk, rfl, rfl⟩ := hrel
    have q0 := bx.d0; have q1 := bx.d1
    by_cases hkl : k < m
    · obtain ⟨bp, op, rfl, hcP⟩ := hp.at_ hkl
      obtain ⟨bo, oo, rfl, hcO⟩ := ha.at_ hkl
      have kO := keeps_below hw1 _ _ hcO; have kP := keeps_below hw1 _ _ hcP
      have hki : (k : Int) < (m : Int) := by omega
      have hk0 : (0 : Int) ≤ (k : Int) := by omega
      by_cases hown : gi o k = who
      · have hge := (row_has HF.out (by rw [HL.out]; exact hkl) ((HP.out.2 k (by rw [HL.out]; exact hkl)).1 hown)).1
        have e1 : (gi o k == who) = true := by simp [hown]
        have e2 : decide (gi p k < 0) = false := decide_eq_false (by omega)
        clear hown
        go_wp2
        go_roundw
        case rel => exact ⟨k + 1, by omega, by go_num, by first | rfl | trivial⟩
        case measure => simp [intOf]; omega
      · have e1 : (gi o k == who) = false := by simp [hown]
        clear hown
        go_wp2
        go_roundw
        case rel => exact ⟨k + 1, by omega, by go_num, by first | rfl | trivial⟩
        case measure => simp [intOf]; omega
    · obtain rfl : k = m := by omega
      go_wp2
      go_ret
      exact ⟨rfl, hw1.mono hB⟩

set_option maxRecDepth 100000 in
theorem l1There (A0 A1 : Option Addr) (n0 c0 n1 c1 : Nat) (v : Int) (w : World) (B : Nat) (hB : B ≤ w.heap.size) (hn0 : n0 ≤ 256) (hn1 : 1 ≤ n0) (hv : 0 ≤ v ∧ v < n0) :
    Calls Try.prog 73 #[.agg #[.slice A0 n0 c0, .slice A1 n1 c1], .int .i64 v] w fun e w' => e = .returned (.bool true) ∧ Below B w w' := by
  have hba : Below w.heap.size w (w.alloc (.cells #[.slice A0 n0 c0, .slice A1 n1 c1] 30)) := below_alloc (Nat.le_refl _) (Below.refl _ _)
  have q0 := (Box.new w 30 #[.slice A0 n0 c0, .slice A1 n1 c1]).d0
  have EI := Lib.hid (show inR v 0 ((n0 : Int) - 1) = true from decide_eq_true ⟨hv.1, by omega⟩)
  go_enter Try.func73, Try.ntmps73
  go_wp2_with fail
  refine (l1In _ _ _ _).mono ?_; rintro e w2 ⟨rfl, q2⟩
  rw [EI.out]
  go_wp2
  go_ret
  exact ⟨rfl, (below_then (below_qt q2 (Below.refl _ _)) hba.size hba).mono hB⟩

theorem l1Place (A : Option Addr) (n c : Nat) (xs : List Int) (x : Int) (k : Nat) (w : World) (ha : RI w A n c xs) (hk : k < n) (hx : gi xs k = x) (hall : ∀ j, j < k → gi xs j ≠ x) :
    Calls Try.prog 75 #[.slice A n c, .int .i64 x] w fun e w' => e = .returned (.int .i64 (k : Int)) ∧ Qt w w' := by
  have b1 := ha.cap; have b2 := ha.top
  have HX := Lib.hid hx; have HA := Lib.hid hall
  clear hx hall
  go_enter Try.func75, Try.ntmps75
  go_wp2
  go_loop [5] (fun i => ∃ j : Nat, j ≤ k ∧ i = .int .i64 j) (fun i => n - (intOf i).toNat)
  case atStart => exact ⟨0, Nat.zero_le _, rfl⟩
  case round =>
    obtain ⟨j, hj, rfl⟩ := hrel
    have hjn : j < n := by omega
    have hji : (j : Int) < (n : Int) := by omega
    obtain ⟨b, off, rfl, hc1⟩ := ha.at_ hjn
    by_cases he : j = k
    · subst he
      have hne : (gi xs j == x) = true := by simp [HX.out]
      go_wp2
      go_ret
      exact ⟨rfl, Qt.refl _⟩
    · have hne : (gi xs j == x) = false := by simpa using HA.out j (by omega)
      go_wp2
      go_round
      case rel => exact ⟨j + 1, by omega, by go_num⟩
      case measure => simp [intOf]; omega
end Go.Proofs.Ytlmhhnplacejkaa
namespace Go.Proofs.Ytlmhhnplacejkaa
open Go.RowKit

def nxN (o e d : List Int) (x : Nat) : Nat := (if gi o x = 0 then gi e x else gi d x).toNat
def itr (f : Nat → Nat) (v : Nat) : Nat → Nat
  | 0 => v
  | i + 1 => f (itr f v i)
def itrL (f : Nat → Nat) (v a len : Nat) : List Int := (List.range len).map fun i => (itr f v (a + i) : Int)
theorem itrL_len (f : Nat → Nat) (v a len : Nat) : (itrL f v a len).length = len := by simp [itrL]
theorem itrL_at {f : Nat → Nat} {v a len i : Nat} (h : i < len) : gi (itrL f v a len) i = (itr f v (a + i) : Int) := by
  rw [gi_get (by rw [itrL_len]; exact h)]
  simp [itrL]
theorem itrL_succ (f : Nat → Nat) (v len : Nat) : itrL f v 0 (len + 1) = itrL f v 0 len ++ [(itr f v len : Int)] := by
  unfold itrL
  rw [List.range_succ, List.map_append]
  simp
theorem itrL_take {f : Nat → Nat} {v t k : Nat} (h : k ≤ t) : (itrL f v 0 t).take k = itrL f v 0 k :=
  gi_ext (by rw [List.length_take, itrL_len, itrL_len]; omega) fun j hj => by
    rw [List.length_take, itrL_len] at hj
    rw [gi_take (by omega), itrL_at (by omega), itrL_at (by omega)]
theorem itrL_drop {f : Nat → Nat} {v t k : Nat} (h : k ≤ t) : (itrL f v 0 t).drop k = itrL f v k (t - k) :=
  gi_ext (by rw [List.length_drop, itrL_len, itrL_len]) fun j hj => by
    rw [List.length_drop, itrL_len] at hj
    rw [gi_drop, itrL_at (by omega), itrL_at (by omega), Nat.zero_add]
theorem RI.drop {w : World} {g n c k : Nat} {xs : List Int} (h : RI w (some ⟨g, 0, none⟩) n c xs) (hk : k ≤ n) : RI w (some ⟨g, k, none⟩) (n - k) (c - k) (xs.drop k) :=
  ⟨by rw [List.length_drop, h.1], ⟨by have := h.cap; omega, by have := h.top; omega⟩, fun i hi => by
    obtain ⟨b, off, e, hc⟩ := h.2.2 (k + i) (by omega)
    injection e with e
    injection e with e1 e2
    subst e1; subst e2
    exact ⟨_, _, rfl, by rw [gi_drop]; simpa using hc⟩⟩
/-- as many as are apart fit below n -/
theorem pig : ∀ (n t : Nat) (f : Nat → Nat), (∀ i, i < t → f i < n) → (∀ i j, i < j → j < t → f i ≠ f j) → t ≤ n
  | 0, t, f, h, _ => by
    rcases Nat.eq_zero_or_pos t with e | e
    · omega
    · exact absurd (h 0 e) (by omega)
  | n + 1, t, f, h, hd => by
    by_cases hx : ∃ i, i < t ∧ f i = n
    · obtain ⟨i0, hi0, he⟩ := hx
      have key := pig n (t - 1) (fun i => if i < i0 then f i else f (i + 1)) (fun i hi => by
        show (if i < i0 then f i else f (i + 1)) < n
        by_cases e : i < i0
        · rw [if_pos e]
          have h1 := h i (by omega)
          have h2 := hd i i0 e hi0
          omega
        · rw [if_neg e]
          have h1 := h (i + 1) (by omega)
          have h2 := hd i0 (i + 1) (by omega) (by omega)
          omega) (fun i j hij hj => by
        show (if i < i0 then f i else f (i + 1)) ≠ (if j < i0 then f j else f (j + 1))
        by_cases e : i < i0
        · rw [if_pos e]
          by_cases e2 : j < i0
          · rw [if_pos e2]; exact hd i j hij (by omega)
          · rw [if_neg e2]; exact hd i (j + 1) (by omega) (by omega)
        · rw [if_neg e, if_neg (by omega)]
          exact hd (i + 1) (j + 1) (by omega) (by omega))
      omega
    · have := pig n t f (fun i hi => by
        have h1 := h i hi
        have h2 : f i ≠ n := fun e => hx ⟨i, hi, e⟩
        omega) hd
      omega
/-- a play: what is met before the loop, and the loop -/
def isPlay (f : Nat → Nat) (v : Nat) (st lp : List Int) : Prop := ∃ k t, k < t ∧ st = itrL f v 0 k ∧ lp = itrL f v k (t - k) ∧ itr f v t = itr f v k
def lenOf : Value → Nat
  | .slice _ n _ => n
  | _ => 0

set_option maxRecDepth 100000 in
set_option maxHeartbeats 1600000 in
theorem playOf (A0 A1 C D : Option Addr) (n0 c0 n1 c1 m d m2 d2 : Nat) (o : List Int) (n : List (List Int)) (pe pd : List Int) (v : Nat) (w : World) (B : Nat) (hB : B ≤ w.heap.size) (ha : RI w A0 n0 c0 o) (hb : RII w A1 n1 c1 n) (hp : RI w C m d pe) (hp2 : RI w D m2 d2 pd) (hf : fineAr o n) (har : arB o n = true)
    (hfe : fullP o n 0 pe) (hfd : fullP o n 1 pd) (hv : v < n0) :
    Calls Try.prog 17 #[.agg #[.slice A0 n0 c0, .slice A1 n1 c1], .slice C m d, .slice D m2 d2, .int .i64 (v : Int)] w fun e w' => ∃ v0 v1 st lp, e = .returned (.tuple #[.agg #[v0, v1], .bool true]) ∧ isPlay (nxN o pe pd) v st lp ∧ (st.length ≤ n0 ∧ lp.length ≤ n0) ∧ OI 2 w' B v0 st ∧ OI 2 w' B v1 lp ∧ Below B w w' := by
  have HL := Lib.hid ha.len; have HM := Lib.hid hb.len
  have hn0 : n0 ≤ 256 := by have := hf.2.1; rw [HL.out] at this; omega
  have HF := Lib.hid hf
  have b1 := ha.cap; have b2 := ha.top; have b3 := hb.cap; have b4 := hb.top
  have hpl : m = n0 := by rw [← hp.len, hfe.1, HL.out]
  have hpl2 : m2 = n0 := by rw [← hp2.len, hfd.1, HL.out]
  subst hpl
  replace hpl2 := hpl2.symm
  subst hpl2
  have hstep : ∀ x, x < m → (gi o x = 0 → gi pe x = ((nxN o pe pd x : Nat) : Int)) ∧ (¬ gi o x = 0 → gi pd x = ((nxN o pe pd x : Nat) : Int)) ∧ nxN o pe pd x < m := fun x hx => by
    have hx' : x < o.length := by rw [HL.out]; exact hx
    have hown := (HF.out.2.2.2 x hx').1
    unfold nxN
    by_cases e : gi o x = 0
    · have h1 := row_has HF.out hx' ((hfe.2 x hx').1 e)
      rw [HL.out] at h1
      rw [if_pos e]
      exact ⟨fun _ => by omega, fun h => absurd e h, by omega⟩
    · have h1 := row_has HF.out hx' ((hfd.2 x hx').1 (by omega))
      rw [HL.out] at h1
      rw [if_neg e]
      exact ⟨fun h => absurd h e, fun _ => by omega, by omega⟩
  have HST := Lib.hid hstep
  have hitr : ∀ i, itr (nxN o pe pd) v i < m := fun i => by
    induction i with
    | zero => exact hv
    | succ i ih => exact (hstep _ ih).2.2
  have HIT := Lib.hid hitr
  clear hstep hitr
  have hbw : Below w.heap.size w ((w.alloc (.cells #[.slice A0 m c0, .slice A1 n1 c1] 30)).alloc (.cells #[.slice none 0 0, .slice none 0 0] 40)) := below_alloc (Nat.le_refl _) (below_alloc (Nat.le_refl _) (Below.refl _ _))
  have bx := (Box.new w 30 #[.slice A0 m c0, .slice A1 n1 c1]).alloc (.cells #[.slice none 0 0, .slice none 0 0] 40)
  have bR : Box ((w.alloc (.cells #[.slice A0 m c0, .slice A1 n1 c1] 30)).alloc (.cells #[.slice none 0 0, .slice none 0 0] 40)) (w.heap.size + 1) 40 #[.slice none 0 0, .slice none 0 0] := Box.new' (by simp)
  have q0 := bx.d0; have q1 := bx.d1
  go_enter Try.func17, Try.ntmps17
  go_wp2_with fail
  refine (fullIn _ _ _ _ _ _ _ _ _ o n 0 pe _ _ (Nat.le_refl _) (ha.keep (keeps_below hbw)) (hb.keep (keeps_below hbw)) (hp.keep (keeps_below hbw)) hf har (by omega) hfe).mono ?_; rintro e w1 ⟨rfl, hb1⟩
  have hw1 := below_then hb1 hbw.size hbw
  replace bx := bx.below hb1 bx.lt; replace bR := bR.below hb1 bR.lt
  clear q0 q1 hb1 hbw
  have q0 := bx.d0; have q1 := bx.d1
  go_wp2_with fail
  refine (fullIn _ _ _ _ _ _ _ _ _ o n 1 pd _ _ (Nat.le_refl _) (ha.keep (keeps_below hw1)) (hb.keep (keeps_below hw1)) (hp2.keep (keeps_below hw1)) hf har (by omega) hfd).mono ?_; rintro e w2 ⟨rfl, hb2⟩
  have hw2 := below_then hb2 hw1.size hw1
  replace bx := bx.below hb2 bx.lt; replace bR := bR.below hb2 bR.lt
  clear q0 q1 hb2
  have q0 := bx.d0; have q1 := bx.d1
  go_wp2_with fail
  refine (l1There _ _ _ _ _ _ _ _ _ (Nat.le_refl _) hn0 (by omega) (by omega)).mono ?_; rintro e w3 ⟨rfl, hb3⟩
  have hw3 := below_then hb3 hw2.size hw2
  replace bx := bx.below hb3 bx.lt; replace bR := bR.below hb3 bR.lt
  clear q0 q1 hb3
  have bx3lt : w.heap.size < w3.heap.size := bx.lt
  have bR3lt : w.heap.size + 1 < w3.heap.size := bR.lt
  have hem := OI.empty (E := 2) (w := w3) (B := w3.heap.size) (Nat.le_refl _)
  have hbe : Below w3.heap.size w3 (w3.alloc (.cells #[] 2)) := below_alloc (Nat.le_refl _) (Below.refl _ _)
  go_wp2
  go_loopw [3, 10] (fun i u wr => ∃ t : Nat, i = .int .i64 (itr (nxN o pe pd) v t) ∧ OI 2 wr w3.heap.size u (itrL (nxN o pe pd) v 0 t) ∧ (∀ i j, i < j → j < t → itr (nxN o pe pd) v i ≠ itr (nxN o pe pd) v j) ∧ Below w3.heap.size w3 wr) (fun _ u _ => m - lenOf u)
  case atStart => exact ⟨0, rfl, hem, fun i j _ h => absurd h (by omega), hbe⟩
  case round =>
    clear hem hbe
    obtain ⟨t, rfl, ho, hdis, hbr⟩ := hrel
    have HD := Lib.hid hdis
    clear hdis
    have htm : t ≤ m := pig m t (fun i => itr (nxN o pe pd) v i) (fun i _ => HIT.out i) (fun i j h1 h2 => HD.out i j h1 h2)
    have hq := below_then hbr hw3.size hw3
    have hsz := hbr.size
    replace bx := bx.below hbr bx.lt; replace bR := bR.below hbr bR.lt
    have q0 := bx.d0
    obtain ⟨Au, cu, rfl⟩ := ho.form
    rw [itrL_len] at ho ⊢
    have hx := HIT.out t
    cases hh : hasL (itrL (nxN o pe pd) v 0 t) (itr (nxN o pe pd) v t : Int) with
    | false =>
      have HH := Lib.hid hh
      have HNE := Lib.hid (show ∀ i, i < t → itr (nxN o pe pd) v i ≠ itr (nxN o pe pd) v t from fun i hi e => of_decide_eq_false hh (by
        rw [← e]
        have h := gi_mem (xs := itrL (nxN o pe pd) v 0 t) (i := i) (by rw [itrL_len]; exact hi)
        rw [itrL_at hi, Nat.zero_add] at h
        exact h))
      clear hh
      have htm1 : t + 1 ≤ m := pig m (t + 1) (fun i => itr (nxN o pe pd) v i) (fun i _ => HIT.out i) (fun i j h1 h2 => by
        by_cases e : j < t
        · exact HD.out i j h1 e
        · obtain rfl : j = t := by omega
          exact HNE.out i h1)
      obtain ⟨bo, oo, rfl, hcO⟩ := ha.at_ hx
      obtain ⟨be, oe, rfl, hcE⟩ := hp.at_ hx
      obtain ⟨bd, od, rfl, hcD⟩ := hp2.at_ hx
      have hki : (itr (nxN o pe pd) v t : Int) < (m : Int) := by omega
      have hk0 : (0 : Int) ≤ (itr (nxN o pe pd) v t : Int) := by omega
      by_cases hown : gi o (itr (nxN o pe pd) v t) = 0
      · rw [(HST.out _ hx).1 hown] at hcE
        have e1 : (gi o (itr (nxN o pe pd) v t) == 0) = true := by simp [hown]
        clear hown
        go_wp2_with fail
        refine (l1Has _ _ _ (itrL (nxN o pe pd) v 0 t) _ _ ho.reads).mono ?_; rintro e w4 ⟨rfl, q4⟩
        rw [HH.out]
        have hb4 := below_qt q4 (Below.refl wr.heap.size wr)
        have ho4 := ho.below hb4
        have hq4 := below_then hb4 hq.size hq
        have bx4 := bx.below hb4 bx.lt
        have bR4 := bR.below hb4 bR.lt
        have hsz4 : w3.heap.size ≤ w4.heap.size := Nat.le_trans hsz hb4.size
        have hxl := bx3lt
        have hlen : (itrL (nxN o pe pd) v 0 t).length ≤ 4194304 := by rw [itrL_len]; omega
        clear ho hq bx bR q0
        go_wp2_with (at_builtin; refine wpList_pushI rfl (.tmp 34) (.tmp 36) rfl _ w3.heap.size (.slice Au t cu) (itrL (nxN o pe pd) v 0 t) (by rfl) ho4 _ (by rfl) hlen hsz4 ?_; intro v2 w5 ho5 hb5 hc5 hat5; obtain ⟨A5, c5, rfl⟩ := ho5.form; have bx5 := bx4.below hb5 (by omega); have q5 := bx5.d0; have hq5 := hq4.trans (hb5.mono (by omega)); have kO := keeps_below hq5 _ _ hcO; have kE := keeps_below hq5 _ _ hcE; have kD := keeps_below hq5 _ _ hcD)
        go_roundw
        case rel => exact ⟨t + 1, rfl, by rw [itrL_succ]; simpa using ho5, fun i j h1 h2 => by
          by_cases e : j < t
          · exact HD.out i j h1 e
          · obtain rfl : j = t := by omega
            exact HNE.out i h1, hbr.trans ((hb4.mono hsz).trans hb5)⟩
        case measure => simp [lenOf, itrL_len]; omega
      · rw [(HST.out _ hx).2.1 hown] at hcD
        have e1 : (gi o (itr (nxN o pe pd) v t) == 0) = false := by simp [hown]
        clear hown
        go_wp2_with fail
        refine (l1Has _ _ _ (itrL (nxN o pe pd) v 0 t) _ _ ho.reads).mono ?_; rintro e w4 ⟨rfl, q4⟩
        rw [HH.out]
        have hb4 := below_qt q4 (Below.refl wr.heap.size wr)
        have ho4 := ho.below hb4
        have hq4 := below_then hb4 hq.size hq
        have bx4 := bx.below hb4 bx.lt
        have bR4 := bR.below hb4 bR.lt
        have hsz4 : w3.heap.size ≤ w4.heap.size := Nat.le_trans hsz hb4.size
        have hxl := bx3lt
        have hlen : (itrL (nxN o pe pd) v 0 t).length ≤ 4194304 := by rw [itrL_len]; omega
        clear ho hq bx bR q0
        go_wp2_with (at_builtin; refine wpList_pushI rfl (.tmp 34) (.tmp 36) rfl _ w3.heap.size (.slice Au t cu) (itrL (nxN o pe pd) v 0 t) (by rfl) ho4 _ (by rfl) hlen hsz4 ?_; intro v2 w5 ho5 hb5 hc5 hat5; obtain ⟨A5, c5, rfl⟩ := ho5.form; have bx5 := bx4.below hb5 (by omega); have q5 := bx5.d0; have hq5 := hq4.trans (hb5.mono (by omega)); have kO := keeps_below hq5 _ _ hcO; have kE := keeps_below hq5 _ _ hcE; have kD := keeps_below hq5 _ _ hcD)
        go_roundw
        case rel => exact ⟨t + 1, rfl, by rw [itrL_succ]; simpa using ho5, fun i j h1 h2 => by
          by_cases e : j < t
          · exact HD.out i j h1 e
          · obtain rfl : j = t := by omega
            exact HNE.out i h1, hbr.trans ((hb4.mono hsz).trans hb5)⟩
        case measure => simp [lenOf, itrL_len]; omega
    | true =>
      have HH := Lib.hid hh
      obtain ⟨k, hkt, hkx, hkall⟩ : ∃ k, k < t ∧ gi (itrL (nxN o pe pd) v 0 t) k = (itr (nxN o pe pd) v t : Int) ∧ ∀ j, j < k → gi (itrL (nxN o pe pd) v 0 t) j ≠ (itr (nxN o pe pd) v t : Int) := by
        obtain ⟨k, hk, e⟩ := mem_gi (of_decide_eq_true hh)
        rw [itrL_len] at hk
        refine ⟨k, hk, e, fun j hj e2 => ?_⟩
        rw [itrL_at (by omega), Nat.zero_add] at e e2
        exact HD.out j k hj hk (by omega)
      have HK := Lib.hid hkx; have HKA := Lib.hid hkall
      have hip : itr (nxN o pe pd) v t = itr (nxN o pe pd) v k := by
        have e := HK.out
        rw [itrL_at hkt, Nat.zero_add] at e
        omega
      have HIP := Lib.hid hip
      clear hh hkx hkall hip
      obtain ⟨g, hge⟩ : ∃ g, Au = some ⟨g, 0, none⟩ := by
        obtain ⟨g, c', e⟩ := ho.form2 (by rw [itrL_len]; omega)
        injection e with e
        exact ⟨g, e⟩
      subst hge
      have bcu := ho.reads.cap; have tcu := ho.reads.top
      go_wp2_with fail
      refine (l1Has _ _ _ (itrL (nxN o pe pd) v 0 t) _ _ ho.reads).mono ?_; rintro e w4 ⟨rfl, q4⟩
      rw [HH.out]
      have hb4 := below_qt q4 (Below.refl wr.heap.size wr)
      replace ho := ho.below hb4; replace hq := below_then hb4 hq.size hq; replace bR := bR.below hb4 bR.lt
      clear q0 bx hbr hsz hb4 q4
      go_wp2_with fail
      refine (l1Place _ _ _ (itrL (nxN o pe pd) v 0 t) _ k _ ho.reads hkt HK.out HKA.out).mono ?_; rintro e w5 ⟨rfl, q5⟩
      have hb5 := below_qt q5 (Below.refl w4.heap.size w4)
      replace ho := ho.below hb5; replace hq := below_then hb5 hq.size hq; replace bR := bR.below hb5 bR.lt
      clear hb5 q5
      have hki : (k : Int) ≤ (t : Int) := by omega
      have hk0 : (0 : Int) ≤ (k : Int) := by omega
      have hkc : k ≤ cu := by omega
      have hkt2 : k ≤ t := by omega
      have htc : t ≤ cu := by omega
      have hkne : ¬ cu = k := by omega
      go_wp2_with fail
      have hL := ho.reads.keep (keeps_below (Below.drew (Below.refl w5.heap.size w5)))
      replace bR : Box w5.drew _ _ _ := bR
      replace hq : Below _ _ w5.drew := Below.drew hq
      refine wp_region_held_drew (S := (fun _ => True)) (by kernel_rfl) trivial (fun hHeld => ?_)
      generalize w5.drew = wD at *
      refine takeH0 (v := ?_) (by kernel_rfl) (by kernel_rfl) (by kernel_rfl) (fun _ _ _ h => h) hHeld (by rfl) ?_ ?_
      rotate_left; · (intro w hSw; (try dsimp only at hSw); go_simp; try with_reducible rfl)
      try simp only [Act.put, List.setIfInBounds_toArray, List.set_cons_zero, List.set_cons_succ]
      refine takeH1 (v := ?_) (by kernel_rfl) (by kernel_rfl) (by kernel_rfl) (fun _ _ _ h => h) hHeld (by rfl) ?_ ?_
      rotate_left; · (intro w hSw; (try dsimp only at hSw); go_simp; try with_reducible rfl)
      try simp only [Act.put, List.setIfInBounds_toArray, List.set_cons_zero, List.set_cons_succ]
      refine takeH2 (v := ?_) (by kernel_rfl) (by kernel_rfl) (by kernel_rfl) (fun _ _ _ h => h) hHeld (by rfl) ?_ ?_
      rotate_left; · (intro w hSw; (try dsimp only at hSw); go_simp; try with_reducible rfl)
      try simp only [Act.put, List.setIfInBounds_toArray, List.set_cons_zero, List.set_cons_succ]
      refine takeH4 (v := ?_) (by kernel_rfl) (by kernel_rfl) (by kernel_rfl) (fun _ _ _ h => h) hHeld (by rfl) ?_ ?_
      rotate_left; · (intro w hSw; (try dsimp only at hSw); go_simp; try with_reducible rfl)
      try simp only [Act.put, List.setIfInBounds_toArray, List.set_cons_zero, List.set_cons_succ]
      refine takeH5 (v := ?_) (by kernel_rfl) (by kernel_rfl) (by kernel_rfl) (fun _ _ _ h => h) hHeld (by rfl) ?_ ?_
      rotate_left; · (intro w hSw; (try dsimp only at hSw); go_simp; try with_reducible rfl)
      try simp only [Act.put, List.setIfInBounds_toArray, List.set_cons_zero, List.set_cons_succ]
      refine takeH6 (v := ?_) (by kernel_rfl) (by kernel_rfl) (by kernel_rfl) (fun _ _ _ h => h) hHeld (by rfl) ?_ ?_
      rotate_left; · (intro w hSw; (try dsimp only at hSw); go_simp; try with_reducible rfl)
      try simp only [Act.put, List.setIfInBounds_toArray, List.set_cons_zero, List.set_cons_succ]
      refine callH3 (by kernel_rfl) (fun K hK => ?_)
      go_simp
      go_at_call 76
      refine (l1Copy _ _ _ ((itrL (nxN o pe pd) v 0 t).take k) _ _ (Nat.le_refl _) (hL.take (by omega)) (by omega)).mono ?_; rintro e w5 ⟨v5, rfl, ho5, hb5⟩
      rw [itrL_take hkt2] at ho5
      obtain ⟨A5, c5, rfl⟩ := ho5.form
      rw [itrL_len] at ho5 ⊢
      have bR5 := bR.below hb5 bR.lt
      have bRlt := bR.lt
      have hw5 := below_then hb5 hq.size hq
      go_wp2_with fail
      refine hK.out _ _ (trivial) (fun hHeld => ?_)
      clear hK K
      try simp only [Act.put, List.setIfInBounds_toArray, List.set_cons_zero, List.set_cons_succ]
      refine callH7 (by kernel_rfl) (fun K hK => ?_)
      go_simp
      go_at_call 76
      refine (l1Copy _ _ _ ((itrL (nxN o pe pd) v 0 t).drop k) _ _ (Nat.le_refl _) ((hL.drop (by omega)).keep (keeps_below hb5)) (by omega)).mono ?_; rintro e w6 ⟨v6, rfl, ho6, hb6⟩
      rw [itrL_drop hkt2] at ho6
      obtain ⟨A6, c6, rfl⟩ := ho6.form
      rw [itrL_len] at ho6 ⊢
      have bR6 := bR5.below hb6 bR5.lt
      have hw6 := below_then hb6 hw5.size hw5
      have m0 := bR6.cell 0; have m1 := bR6.cell 1; have h0 := bR6.hot 0; have h1 := bR6.hot 1
      simp only [List.getElem?_toArray, List.getElem?_cons_zero, List.getElem?_cons_succ] at m0 m1
      go_wp2_with fail
      refine hK.out _ _ (trivial) (fun hHeld => ?_)
      clear hK K
      try simp only [Act.put, List.setIfInBounds_toArray, List.set_cons_zero, List.set_cons_succ]
      refine takeH8 (v := ?_) (by kernel_rfl) (by kernel_rfl) (by kernel_rfl) (fun _ _ _ h => h) hHeld (by rfl) ?_ ?_
      rotate_left; · (intro w hSw; (try dsimp only at hSw); go_simp; try with_reducible rfl)
      try simp only [Act.put, List.setIfInBounds_toArray, List.set_cons_zero, List.set_cons_succ]
      refine callH9 (by kernel_rfl) (fun K hK => ?_)
      go_simp
      refine hK.out _ _ (trivial) (fun hHeld => ?_)
      clear hK K
      try simp only [Act.put, List.setIfInBounds_toArray, List.set_cons_zero, List.set_cons_succ]
      refine takeH10 (v := ?_) (by kernel_rfl) (by kernel_rfl) (by kernel_rfl) (fun _ _ _ h => h) hHeld (by rfl) ?_ ?_
      rotate_left; · (intro w hSw; (try dsimp only at hSw); go_simp; try with_reducible rfl)
      try simp only [Act.put, List.setIfInBounds_toArray, List.set_cons_zero, List.set_cons_succ]
      refine wpAnyH_done (by kernel_rfl) ?_ _
      have ch : Chg (fun y => y = w.heap.size + 1) w6 ((w6.setCell ⟨w.heap.size + 1, 0, none⟩ (.slice A5 k c5)).setCell ⟨w.heap.size + 1, 1, none⟩ (.slice A6 (t - k) c6)) := (Chg.set (w := w6) ⟨w.heap.size + 1, 0, none⟩ (.slice A5 k c5)).trans (Chg.set ⟨w.heap.size + 1, 1, none⟩ (.slice A6 (t - k) c6)) (U := fun y => y = w.heap.size + 1) (fun _ h => h) (fun _ h => h)
      have bF : Box ((w6.setCell ⟨w.heap.size + 1, 0, none⟩ (.slice A5 k c5)).setCell ⟨w.heap.size + 1, 1, none⟩ (.slice A6 (t - k) c6)) (w.heap.size + 1) 40 #[.slice A5 k c5, .slice A6 (t - k) c6] := (bR6.set_ 0 (.slice A5 k c5)).set_ 1 (.slice A6 (t - k) c6)
      have R0 := bF.cell 0; have R1 := bF.cell 1
      simp only [List.getElem?_toArray, List.getElem?_cons_zero, List.getElem?_cons_succ] at R0 R1
      have hD := hq.size; have h5s := hb5.size
      have fo5 := ((ho5.below hb6).chg ch (fun y hy e => by have := (ho5.lt y hy).1; have e2 : y = w.heap.size + 1 := e; omega)).more (lo' := w.heap.size) (by omega)
      have fo6 := (ho6.chg ch (fun y hy e => by have := (ho6.lt y hy).1; have e2 : y = w.heap.size + 1 := e; omega)).more (lo' := w.heap.size) (by omega)
      have fw := hw6.trans (ch.below hw6.size (fun y hy => by omega))
      go_wp2
      exact bodyPost_ret (v := .tuple #[.agg #[.slice A5 k c5, .slice A6 (t - k) c6], .bool true]) (by simp [results, Try.results17, go_sem, R0, R1]) rfl ⟨_, _, itrL (nxN o pe pd) v 0 k, itrL (nxN o pe pd) v k (t - k), rfl, ⟨k, t, hkt, rfl, rfl, HIP.out⟩, ⟨by rw [itrL_len]; omega, by rw [itrL_len]; omega⟩, fo5.more hB, fo6.more hB, fw.mono hB⟩
end Go.Proofs.Ytlmhhnplacejkaa
