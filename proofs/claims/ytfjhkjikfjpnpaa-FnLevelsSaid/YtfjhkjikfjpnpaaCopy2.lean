/- copyArena. -/
import Derived.Test.YtfjhkjikfjpnpaaCopy
import Derived.Test.YtfjhkjikfjpnpaaMarks
namespace Go.Proofs.Ytfjhkjikfjpnpaa
open Go.RowKit

theorem OArn.join {wC wF : World} {lo loC : Nat} {v1 v2 : Value} {o : List Int} {n : List (List Int)} (h : OArn wC loC (.slice none 0 0) v2 ([], n)) (f : Far loC wC wF) (h1 : OI 2 wF lo v1 o) (hlo : lo ≤ loC) (hap : ∀ b, v1.ownBlock = some b → b < loC ∨ wC.heap.size ≤ b) : OArn wF lo v1 v2 (o, n) := by
  obtain ⟨cs, ⟨_, h3, h4⟩, hd⟩ := h
  have h4' := h4.hold f
  refine ⟨cs, ⟨h1, row_more (row_hold h3 f) hlo, h4'.more hlo⟩, Dis.cons hd.tail (fun i hi => ?_)⟩
  unfold Apart
  cases e : v1.ownBlock with
  | none => exact .inl rfl
  | some b =>
    right
    intro e2
    have := (h4.lt i hi b e2.symm)
    have := hap b e
    omega

theorem OArn.chg {S : Nat → Prop} {w w' : World} {lo : Nat} {s0 s1 : Value} {z : ArD} (h : OArn w lo s0 s1 z) (hc : Chg S w w') (hS : ∀ b, S b → b < lo) : OArn w' lo s0 s1 z := by
  obtain ⟨cs, h1, h2⟩ := h
  exact ⟨cs, h1.chg hc hS, h2⟩
set_option maxRecDepth 100000 in
set_option maxHeartbeats 1600000 in
theorem copyArena (s0 s1 : Value) (z : ArD) (w : World) (B : Nat) (hB : B ≤ w.heap.size) (ha : RAv w s0 s1 z.1 z.2) (hf : fineAr z.1 z.2) :
    Calls Try.prog 165 #[.agg #[s0, s1]] w fun e w' => ∃ t0 t1, e = .returned (.agg #[t0, t1]) ∧ OArn w' B t0 t1 z ∧ Below B w w' := by
  obtain ⟨A0, n0, c0, A1, n1, c1, rfl, rfl⟩ := ha.form
  have hr := ha.ri; have hrr := ha.rii
  have HL := Lib.hid hr.len; have HM := Lib.hid hrr.len
  have hn0 : n0 ≤ 1048576 := by have := hf.2.1; rw [HL.out] at this; omega
  have hn1 : n1 ≤ 1048576 := by have := hf.2.2.1; rw [HM.out, HL.out] at this; omega
  have hle : ∀ i, i < n1 → (gl z.2 i).length ≤ 1048576 := fun i hi => by
    have h3 := hf.2.2.1
    have := (hf.2.2.2 i (by rw [← h3, HM.out]; exact hi)).2.1.2
    omega
  have HLE := Lib.hid hle
  clear hle hf
  have hwL : Below w.heap.size w ((w.alloc (.cells #[.slice A0 n0 c0, .slice A1 n1 c1] 42)).alloc (.cells #[.slice none 0 0, .slice none 0 0] 42)) := below_alloc (Nat.le_refl _) (below_alloc (Nat.le_refl _) (Below.refl _ _))
  have bxL := (Box.new w 42 #[.slice A0 n0 c0, .slice A1 n1 c1]).alloc (.cells #[.slice none 0 0, .slice none 0 0] 42)
  have brL : Box ((w.alloc (.cells #[.slice A0 n0 c0, .slice A1 n1 c1] 42)).alloc (.cells #[.slice none 0 0, .slice none 0 0] 42)) (w.heap.size + 1) 42 #[.slice none 0 0, .slice none 0 0] := Box.new' (by simp)
  have hsL : w.heap.size + 2 ≤ ((w.alloc (.cells #[.slice A0 n0 c0, .slice A1 n1 c1] 42)).alloc (.cells #[.slice none 0 0, .slice none 0 0] 42)).heap.size := by simp
  have q0 := bxL.d0; have q1 := bxL.d1
  go_enter Try.func165, Try.ntmps165
  go_wp2_with fail
  generalize ((w.alloc (.cells #[.slice A0 n0 c0, .slice A1 n1 c1] 42)).alloc (.cells #[.slice none 0 0, .slice none 0 0] 42)) = W at *
  go_region_held3 (fun w' => w'.cell? ⟨w.heap.size, 0, none⟩ = some (.slice A0 n0 c0) ∧ w'.cell? ⟨w.heap.size, 1, none⟩ = some (.slice A1 n1 c1))
    (first | ((refine ⟨?_, ?_⟩ <;> repeat (first | with_reducible assumption | with_reducible refine keepD ?_ | with_reducible refine keepA ?_)); done) | ((refine ⟨?_, ?_⟩ <;> simp [World.cell?_setCell_other, q0, q1]); done))
    (first
      | (refine step_of_list (by rfl) (wp_appI (.tmp 3) (.tmp 5) (by rfl) _ (w.heap.size + 2) _ [] (by rfl) (by first | exact OI.empty (by first | omega | (simp; omega)) | exact (OI.empty (by first | omega | (simp; omega))).below hbC) _ _ _ z.1 (by rfl) (hr.keep (keeps_below (by repeat (first | with_reducible exact hwL | with_reducible refine Below.drew ?_ | with_reducible refine below_alloc (Nat.le_refl _) ?_)))) (by simp) (by omega) (by first | omega | (simp; omega)) ?_)
         intro v1 w1 ho1 hb1 hc1 hat1
         try rw [List.nil_append] at ho1
         obtain ⟨Av1, cv1, rfl⟩ := ho1.form
         replace bxL := Box.below (w' := w1) (b := w.heap.size) (t := 42) (cs := #[.slice A0 n0 c0, .slice A1 n1 c1]) (by repeat (first | with_reducible exact bxL | with_reducible refine Box.alloc ?_ _ | with_reducible refine Box.drew ?_)) hb1 (by omega)
         replace hwL : Below w.heap.size w w1 := (show Below w.heap.size w _ by repeat (first | with_reducible exact hwL | with_reducible refine Below.drew ?_ | with_reducible refine below_alloc (Nat.le_refl _) ?_)).trans (hb1.mono (by omega))
         have hs1 := hb1.size
         replace hsL : w.heap.size + 2 ≤ w1.heap.size := by first | omega | (simp at hs1; omega)
         have hk1 := hsL
         replace brL := Box.below (w' := w1) (b := w.heap.size + 1) (t := 42) (cs := #[.slice none 0 0, .slice none 0 0]) (by repeat (first | with_reducible exact brL | with_reducible refine Box.alloc ?_ _ | with_reducible refine Box.drew ?_)) hb1 (by omega)
         have q0 := bxL.d0
         have q1 := bxL.d1
         have f0 := brL.hot 0
         have f1 := brL.hot 1
         have p0 := brL.d0
         have p1 := brL.d1)
      | (go_at_call 195
         refine (copyLists _ _ _ z.2 _ _ (Nat.le_refl _) (hrr.keep (keeps_below (by repeat (first | with_reducible exact hwL | with_reducible refine Below.drew ?_ | with_reducible refine below_alloc (Nat.le_refl _) ?_)))) hn1 HLE.out).mono ?_
         rintro e wC ⟨v2, rfl, hoC, hbC⟩
         obtain ⟨_, _, Av2, cv2, h0e, rfl⟩ := hoC.form
         clear h0e
         replace hwL : Below w.heap.size w wC := below_then hbC (by first | omega | (simp; omega)) (by repeat (first | with_reducible exact hwL | with_reducible refine Below.drew ?_ | with_reducible refine below_alloc (Nat.le_refl _) ?_))
         replace bxL := Box.below (w' := wC) (b := w.heap.size) (t := 42) (cs := #[.slice A0 n0 c0, .slice A1 n1 c1]) (by repeat (first | with_reducible exact bxL | with_reducible refine Box.alloc ?_ _ | with_reducible refine Box.drew ?_)) hbC (by first | omega | (simp; omega))
         replace brL := Box.below (w' := wC) (b := w.heap.size + 1) (t := 42) (cs := #[.slice none 0 0, .slice none 0 0]) (by repeat (first | with_reducible exact brL | with_reducible refine Box.alloc ?_ _ | with_reducible refine Box.drew ?_)) hbC (by first | omega | (simp; omega))
         have hsC := hbC.size
         replace hsL : w.heap.size + 2 ≤ wC.heap.size := by first | omega | (simp at hsC; omega)
         have q0 := bxL.d0
         have q1 := bxL.d1
         have f0 := brL.hot 0
         have f1 := brL.hot 1
         have p0 := brL.d0
         have p1 := brL.d1))
  all_goals
    first
      | (have fo : OArn w1 (w.heap.size + 2) (.slice Av1 z.1.length cv1) (.slice Av2 z.2.length cv2) (z.1, z.2) := OArn.join hoC (hc1.mono (fun b hb => by simp [Value.ownBlock] at hb; subst hb; simp)) ho1 (by simp; omega) (fun b hb => by rcases hat1 b hb with h | h; (left; simp [Value.ownBlock] at h; subst h; simp); exact .inr h)
         have ch : Chg (fun b => b = w.heap.size + 1) w1 ((w1.setCell ⟨w.heap.size + 1, 0, none⟩ (.slice Av1 z.1.length cv1)).setCell ⟨w.heap.size + 1, 1, none⟩ (.slice Av2 z.2.length cv2)) := (Chg.set (w := w1) ⟨w.heap.size + 1, 0, none⟩ (.slice Av1 z.1.length cv1)).trans (Chg.set ⟨w.heap.size + 1, 1, none⟩ (.slice Av2 z.2.length cv2)) (U := fun b => b = w.heap.size + 1) (fun _ h => h) (fun _ h => h)
         have bF : Box ((w1.setCell ⟨w.heap.size + 1, 0, none⟩ (.slice Av1 z.1.length cv1)).setCell ⟨w.heap.size + 1, 1, none⟩ (.slice Av2 z.2.length cv2)) (w.heap.size + 1) 42 #[.slice Av1 z.1.length cv1, .slice Av2 z.2.length cv2] := (brL.set_ 0 (.slice Av1 z.1.length cv1)).set_ 1 (.slice Av2 z.2.length cv2)
         have R0 := bF.d0
         have R1 := bF.d1
         have hwF : Below w.heap.size w ((w1.setCell ⟨w.heap.size + 1, 0, none⟩ (.slice Av1 z.1.length cv1)).setCell ⟨w.heap.size + 1, 1, none⟩ (.slice Av2 z.2.length cv2)) := hwL.trans (ch.below (by omega) (fun b hb => by omega))
         have fin := fo.chg ch (fun b hb => by omega)
         go_wp2
         exact bodyPost_ret (v := .agg #[.slice Av1 z.1.length cv1, .slice Av2 z.2.length cv2]) (by simp [results, Try.results165, go_sem, R0, R1]) rfl ⟨_, _, rfl, fin.more (by omega), hwF.mono hB⟩)
      | (have fo : OArn w1 (w.heap.size + 2) (.slice Av1 z.1.length cv1) (.slice Av2 z.2.length cv2) (z.1, z.2) := OArn.join hoC (((Far.refl _ wC).step (below_alloc (Nat.le_refl _) (Below.refl _ _))).trans hc1 (fun _ h => h) (fun b hb => by simp [Value.ownBlock] at hb; subst hb; omega)) ho1 (by first | omega | (simp; omega)) (fun b hb => by rcases hat1 b hb with h | h; (right; simp [Value.ownBlock] at h; omega); (right; simp at h; omega))
         have ch : Chg (fun b => b = w.heap.size + 1) w1 ((w1.setCell ⟨w.heap.size + 1, 0, none⟩ (.slice Av1 z.1.length cv1)).setCell ⟨w.heap.size + 1, 1, none⟩ (.slice Av2 z.2.length cv2)) := (Chg.set (w := w1) ⟨w.heap.size + 1, 0, none⟩ (.slice Av1 z.1.length cv1)).trans (Chg.set ⟨w.heap.size + 1, 1, none⟩ (.slice Av2 z.2.length cv2)) (U := fun b => b = w.heap.size + 1) (fun _ h => h) (fun _ h => h)
         have bF : Box ((w1.setCell ⟨w.heap.size + 1, 0, none⟩ (.slice Av1 z.1.length cv1)).setCell ⟨w.heap.size + 1, 1, none⟩ (.slice Av2 z.2.length cv2)) (w.heap.size + 1) 42 #[.slice Av1 z.1.length cv1, .slice Av2 z.2.length cv2] := (brL.set_ 0 (.slice Av1 z.1.length cv1)).set_ 1 (.slice Av2 z.2.length cv2)
         have R0 := bF.d0
         have R1 := bF.d1
         have hwF : Below w.heap.size w ((w1.setCell ⟨w.heap.size + 1, 0, none⟩ (.slice Av1 z.1.length cv1)).setCell ⟨w.heap.size + 1, 1, none⟩ (.slice Av2 z.2.length cv2)) := hwL.trans (ch.below (by omega) (fun b hb => by omega))
         have fin := fo.chg ch (fun b hb => by omega)
         go_wp2
         exact bodyPost_ret (v := .agg #[.slice Av1 z.1.length cv1, .slice Av2 z.2.length cv2]) (by simp [results, Try.results165, go_sem, R0, R1]) rfl ⟨_, _, rfl, fin.more (by omega), hwF.mono hB⟩)
      | (have fo : OArn wC (w.heap.size + 2) (.slice Av1 z.1.length cv1) (.slice Av2 z.2.length cv2) (z.1, z.2) := OArn.join hoC (Far.refl _ _) (ho1.below hbC) (by have := hb1.size; have := hs1; first | omega | (simp at *; omega)) (fun b hb => .inl (ho1.lt b hb).2)
         have ch : Chg (fun b => b = w.heap.size + 1) wC ((wC.setCell ⟨w.heap.size + 1, 0, none⟩ (.slice Av1 z.1.length cv1)).setCell ⟨w.heap.size + 1, 1, none⟩ (.slice Av2 z.2.length cv2)) := (Chg.set (w := wC) ⟨w.heap.size + 1, 0, none⟩ (.slice Av1 z.1.length cv1)).trans (Chg.set ⟨w.heap.size + 1, 1, none⟩ (.slice Av2 z.2.length cv2)) (U := fun b => b = w.heap.size + 1) (fun _ h => h) (fun _ h => h)
         have bF : Box ((wC.setCell ⟨w.heap.size + 1, 0, none⟩ (.slice Av1 z.1.length cv1)).setCell ⟨w.heap.size + 1, 1, none⟩ (.slice Av2 z.2.length cv2)) (w.heap.size + 1) 42 #[.slice Av1 z.1.length cv1, .slice Av2 z.2.length cv2] := (brL.set_ 0 (.slice Av1 z.1.length cv1)).set_ 1 (.slice Av2 z.2.length cv2)
         have R0 := bF.d0
         have R1 := bF.d1
         have hwF : Below w.heap.size w ((wC.setCell ⟨w.heap.size + 1, 0, none⟩ (.slice Av1 z.1.length cv1)).setCell ⟨w.heap.size + 1, 1, none⟩ (.slice Av2 z.2.length cv2)) := hwL.trans (ch.below (by omega) (fun b hb => by omega))
         have fin := fo.chg ch (fun b hb => by omega)
         go_wp2
         exact bodyPost_ret (v := .agg #[.slice Av1 z.1.length cv1, .slice Av2 z.2.length cv2]) (by simp [results, Try.results165, go_sem, R0, R1]) rfl ⟨_, _, rfl, fin.more (by omega), hwF.mono hB⟩)
end Go.Proofs.Ytfjhkjikfjpnpaa
