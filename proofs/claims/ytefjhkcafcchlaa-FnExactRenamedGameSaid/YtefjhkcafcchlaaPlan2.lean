/- l15Least; StayPlan, spec and impl. StayPlan, spec and impl. -/
import Derived.Test.YtefjhkcafcchlaaPlan
import Derived.Test.YtefjhkcafcchlaaStay
import Derived.Test.YtefjhkcafcchlaaArenaL
namespace Go.Proofs.Ytefjhkcafcchlaa
open Go.RowKit

theorem firstU_stay {al : Nat → Bool} {ns : List Int} {k : Nat} (h : 0 ≤ firstU al ns k) : ∀ d, firstU al ns (k + d) = firstU al ns k
  | 0 => rfl
  | d + 1 => by rw [← Nat.add_assoc, firstU, firstU_stay h d, if_neg (by omega)]
theorem firstU_at {al : Nat → Bool} {ns : List Int} {k m : Nat} (hm : gi ns k = (m : Int)) (h : firstU al ns k < 0) : firstU al ns (k + 1) = if al m = true then (m : Int) else -1 := by
  rw [firstU, if_pos h, hm]; rfl
end Go.Proofs.Ytefjhkcafcchlaa
namespace Go.Proofs.Ytefjhkcafcchlaa
open Go.RowKit

theorem gi_app_lt {xs : List Int} {x : Int} {i : Nat} (h : i < xs.length) : gi (xs ++ [x]) i = gi xs i := by simp [gi, List.getElem?_append_left h]
theorem gi_app_eq {xs : List Int} {x : Int} : gi (xs ++ [x]) xs.length = x := by simp [gi]
theorem listUp_set (ms : List Bool) : ∀ k i, i < (listUp ms k).length → setAt (listUp ms k) (k : Int) i
  | 0, i, h => absurd h (by simp [listUp, pick])
  | k + 1, i, h => by
    have ih := listUp_set ms k
    by_cases e : gb ms k = true
    · have hs : listUp ms (k + 1) = listUp ms k ++ [(k : Int)] := pick_yes e
      rw [hs] at h ⊢
      rw [List.length_append, List.length_singleton] at h
      by_cases hi : i < (listUp ms k).length
      · obtain ⟨h1, h2, h3⟩ := ih i hi
        refine ⟨by rw [gi_app_lt hi]; exact h1, by rw [gi_app_lt hi]; omega, fun h0 => ?_⟩
        rw [gi_app_lt hi, gi_app_lt (by omega)]
        exact h3 h0
      · obtain rfl : i = (listUp ms k).length := by omega
        refine ⟨by rw [gi_app_eq]; omega, by rw [gi_app_eq]; omega, fun h0 => ?_⟩
        rw [gi_app_eq, gi_app_lt (by omega)]
        exact (ih _ (by omega)).2.1
    · have e' : gb ms k = false := by simpa using e
      have hs : listUp ms (k + 1) = listUp ms k := pick_no e'
      rw [hs] at h ⊢
      obtain ⟨h1, h2, h3⟩ := ih i h
      exact ⟨h1, by omega, h3⟩
theorem listM_set {ms : List Bool} {n : Nat} (h : ms.length = n) : setB (listM ms) (n : Int) = true := setB_true.2 fun i hi => by
  subst h
  exact listUp_set ms _ i hi
theorem mkM_list {ms : List Bool} {n : Nat} (h : ms.length = n) : mkM n (listM ms) = ms := gb_ext (by rw [mkM_len, h]) fun j hj => by
  rw [mkM_len] at hj
  rw [mkM_at hj]
  cases hg : gb ms j with
  | true => exact decide_eq_true (mem_pick.2 ⟨j, by omega, hg, rfl⟩)
  | false =>
    refine decide_eq_false fun hm => ?_
    obtain ⟨i, _, h2, h3⟩ := mem_pick.1 hm
    obtain rfl : i = j := by omega
    rw [h2] at hg
    cases hg
noncomputable def stayPlanR (o : List Int) (n : List (List Int)) (who : Int) (s : List Int) : List Int := if okA o n who s = true then planL o n who (stayM o n who s) (fun _ u => gb (stayM o n who s) u) else []
theorem stayPlanR_len (z : ArD) (who : Int) (s : List Int) : (stayPlanR z.1 z.2 who s).length ≤ 256 := by
  unfold stayPlanR
  split
  · rename_i h
    have := (fineAr_of (okA_parts h).1).2.1
    unfold planL
    rw [fill_len]
    exact this
  · simp
theorem stayM_len {o : List Int} {n : List (List Int)} {who : Int} {s : List Int} : (stayM o n who s).length = o.length := by
  unfold stayM gfp
  have h0 : ∃ r, isGfp (intoB o n who) o.length (mkM o.length s) r := gfp_ex _ _ _ (mkM_len _ _)
  have := (@Classical.epsilon_spec _ (isGfp (intoB o n who) o.length (mkM o.length s)) h0).len
  rw [mkM_len] at this
  exact this

set_option maxRecDepth 100000 in
theorem planFn (D : Option Addr) (m d : Nat) (ms : List Bool) (v u bw : Nat) (w : World) (hbw : w.cell? ⟨bw, 0, none⟩ = some (.slice D m d)) (hm : RB w D m d ms) (hu : u < m) :
    Calls Try.prog 89 #[.int .i64 (v : Int), .int .i64 (u : Int), .pointer (some ⟨bw, 0, none⟩)] w fun e w' => e = .returned (.bool (gb ms u)) ∧ Below w.heap.size w w' := by
  obtain ⟨b, off, rfl, hc⟩ := hm.at_ hu
  go_enter Try.func89, Try.ntmps89
  go_wp2
  go_ret
  exact ⟨rfl, Below.refl _ _⟩
theorem planFn_enter (args : Array Value) (w : World) : (callFunc 89 args).run Try.prog w = .ok (.enter 89 args) w := by kernel_rfl

set_option maxRecDepth 100000 in
set_option maxHeartbeats 800000 in
theorem implStayPlan (s0 s1 : Value) (z : ArD) (who : Int) (C : Option Addr) (m d : Nat) (s : List Int) (w : World) (B : Nat) (hB : B ≤ w.heap.size) (ha : RAv w s0 s1 z.1 z.2) (hs : RI w C m d s) :
    Calls Try.prog 23 #[.agg #[s0, s1], .int .i64 who, .slice C m d] w fun e w' => ∃ v, e = .returned v ∧ OI 2 w' B v (stayPlanR z.1 z.2 who s) ∧ Below B w w' := by
  have hmf : ∀ (fn : Fn) (first cap : Array Value) (w : World), (Instr.makeFunc fn first cap).run Try.prog w = .ok (.func fn first cap) w := fun _ _ _ _ => rfl
  obtain ⟨A0, n0, c0, A1, n1, c1, rfl, rfl⟩ := ha.form
  have hr := ha.ri; have hrr := ha.rii
  have HL := Lib.hid hr.len
  have hba : Below w.heap.size w (w.alloc (.cells #[.slice A0 n0 c0, .slice A1 n1 c1] 30)) := below_alloc (Nat.le_refl _) (Below.refl _ _)
  have bx := Box.new w 30 #[.slice A0 n0 c0, .slice A1 n1 c1]
  have q0 := bx.d0; have q1 := bx.d1
  cases h : okA z.1 z.2 who s with
  | false =>
    have E := Lib.hid (show stayPlanR z.1 z.2 who s = [] from if_neg (by rw [h]; simp))
    go_enter Try.func23, Try.ntmps23
    go_wp2_with fail
    refine (canAttract _ _ _ _ _ _ _ _ _ _ _ _ _ _ _ (Nat.le_refl _) (hr.keep (keeps_below hba)) (hrr.keep (keeps_below hba)) (hs.keep (keeps_below hba))).mono ?_; rintro e w1 ⟨rfl, hb1'⟩
    have hb1 := below_then hb1' hba.size hba
    go_wp2
    go_ret
    exact ⟨_, rfl, by rw [E.out]; exact OI.nil _ _ _, hb1.mono hB⟩
  | true =>
    obtain ⟨h1, h2, h3⟩ := okA_parts h
    have E := Lib.hid (show stayPlanR z.1 z.2 who s = planL z.1 z.2 who (stayM z.1 z.2 who s) (fun _ u => gb (stayM z.1 z.2 who s) u) from if_pos h)
    have HF := Lib.hid (fineAr_of h1)
    have hn0 : n0 ≤ 1048576 := by have := HF.out.2.1; rw [HL.out] at this; omega
    have hsl : (stayM z.1 z.2 who s).length = n0 := by rw [stayM_len, HL.out]
    have HSL := Lib.hid hsl
    have HSS := Lib.hid (listM_set hsl)
    have HMK := Lib.hid (mkM_list hsl)
    clear h1 h2 hsl
    go_enter Try.func23, Try.ntmps23
    go_wp2_with fail
    refine (canAttract _ _ _ _ _ _ _ _ _ _ _ _ _ _ _ (Nat.le_refl _) (hr.keep (keeps_below hba)) (hrr.keep (keeps_below hba)) (hs.keep (keeps_below hba))).mono ?_; rintro e w1 ⟨rfl, hb1'⟩
    have hb1 := below_then hb1' hba.size hba
    have bx1 := bx.below hb1' bx.lt
    have q10 := bx1.d0; have q11 := bx1.d1
    go_wp2_with fail
    go_region_held3 (fun w' => w'.cell? ⟨w.heap.size, 0, none⟩ = some (.slice A0 n0 c0) ∧ w'.cell? ⟨w.heap.size, 1, none⟩ = some (.slice A1 n1 c1))
      (first | ((refine ⟨?_, ?_⟩ <;> repeat (first | with_reducible assumption | with_reducible refine keepD ?_ | with_reducible refine keepA ?_)); done) | ((refine ⟨?_, ?_⟩ <;> simp [World.cell?_setCell_other, q30, q31, hn10, hn20, hn30]); done))
      (first
        | (go_at_call 87
           refine (stayIn _ _ _ _ _ _ _ _ _ _ _ _ _ _ _ (Nat.le_refl _) (hr.keep (keeps_below (by repeat (first | with_reducible exact hb1 | with_reducible refine Below.drew ?_ | with_reducible refine below_alloc (Nat.le_refl _) ?_)))) (hrr.keep (keeps_below (by repeat (first | with_reducible exact hb1 | with_reducible refine Below.drew ?_ | with_reducible refine below_alloc (Nat.le_refl _) ?_)))) (hs.keep (keeps_below (by repeat (first | with_reducible exact hb1 | with_reducible refine Below.drew ?_ | with_reducible refine below_alloc (Nat.le_refl _) ?_)))) HF.out h3).mono ?_
           rintro e w2 ⟨v2, rfl, ho2, hb2⟩
           obtain ⟨A2, c2, rfl⟩ := ho2.form
           have hb1s := hb1.size
           have bx1l := bx1.lt
           have hw2 : Below w.heap.size w w2 := below_then hb2 (by first | exact hb1s | (simp; omega)) (by repeat (first | with_reducible exact hb1 | with_reducible refine Below.drew ?_ | with_reducible refine below_alloc (Nat.le_refl _) ?_))
           have bx2 := Box.below (w' := w2) (b := w.heap.size) (t := 30) (cs := #[.slice A0 n0 c0, .slice A1 n1 c1]) (by repeat (first | with_reducible exact bx1 | with_reducible refine Box.alloc ?_ _ | with_reducible refine Box.drew ?_)) hb2 (by first | exact bx1l | (simp; omega))
           have q20 := bx2.d0
           have q21 := bx2.d1
           have hs2 := hb2.size
           have hs12 : w1.heap.size ≤ w2.heap.size := by first | exact hs2 | (simp at hs2; omega)
           try have bc2 := Box.below (w' := w2) (b := w1.heap.size) (t := 98) (cs := #[.slice none 0 0]) (by exact Box.new' rfl) hb2 (by simp)
           have hn10 : w.heap.size ≠ w1.heap.size := by omega
           have hn20 : w.heap.size ≠ w2.heap.size := by omega)
        | (go_at_call 86
           have hbx : Below w2.heap.size w2 (w2.alloc (.cells #[.slice none 0 0] 98)) := below_alloc (Nat.le_refl _) (Below.refl _ _)
           refine (markOf _ _ _ n0 _ _ _ _ _ (listM (stayM z.1 z.2 who s)) _ _ (Nat.le_refl _) (ho2.below hbx).reads HSS.out hn0).mono ?_
           rintro e w3 ⟨v3, rfl, ho3, hb3⟩
           rw [HMK.out] at ho3
           obtain ⟨A3, c3, rfl⟩ := ho3.form
           have hb3' := below_then hb3 hbx.size hbx
           have hw3 := below_then hb3' hw2.size hw2
           have bx3 := bx2.below hb3' bx2.lt
           have hlt2 : w2.heap.size < (w2.alloc (.cells #[.slice none 0 0] 98)).heap.size := by simp
           have bw3 := (Box.new w2 98 #[.slice none 0 0]).below hb3 hlt2
           have q32 : w3.cell? ⟨w2.heap.size, 0, none⟩ = some (.slice none 0 0) := bw3.cell 0
           have q33 := bw3.hot 0
           have q30 := bx3.d0
           have q31 := bx3.d1
           have hn30 : w.heap.size ≠ w3.heap.size := by have := bx3.lt; omega)
        | (go_at_call 86
           refine (markOf _ _ _ n0 _ _ _ _ _ (listM (stayM z.1 z.2 who s)) _ _ (Nat.le_refl _) ho2.reads HSS.out hn0).mono ?_
           rintro e w3 ⟨v3, rfl, ho3, hb3⟩
           rw [HMK.out] at ho3
           obtain ⟨A3, c3, rfl⟩ := ho3.form
           have hw3 := below_then hb3 hw2.size hw2
           have bx3 := bx2.below hb3 bx2.lt
           try have bc3 := bc2.below hb3 bc2.lt
           try have q32 : w3.cell? ⟨w1.heap.size, 0, none⟩ = some (.slice none 0 0) := bc3.cell 0
           try have q33 := bc3.hot 0
           have q30 := bx3.d0
           have q31 := bx3.d1
           have hn30 : w.heap.size ≠ w3.heap.size := by have := bx3.lt; omega))
    all_goals
      first
        | (have tok := bc3
           clear tok
           have hne : w.heap.size ≠ w1.heap.size := by have := bx1.lt; have := hw2.size; have := bx2.lt; omega
           have hge : w.heap.size ≤ w1.heap.size := by have := bx1.lt; have := hw2.size; omega
           have hw4 : Below w.heap.size w (w3.setCell ⟨w1.heap.size, 0, none⟩ (.slice A3 (stayM z.1 z.2 who s).length c3)) := below_set (by exact hge) hw3
           have bx4 := bx3.far (p := ⟨w1.heap.size, 0, none⟩) hne (.slice A3 (stayM z.1 z.2 who s).length c3)
           have by4 : Box (w3.setCell ⟨w1.heap.size, 0, none⟩ (.slice A3 (stayM z.1 z.2 who s).length c3)) (w1.heap.size) 98 #[.slice A3 (stayM z.1 z.2 who s).length c3] := bc3.set_ 0 (.slice A3 (stayM z.1 z.2 who s).length c3)
           have q40 := bx4.d0
           have q41 := bx4.d1
           have q42 : (w3.setCell ⟨w1.heap.size, 0, none⟩ (.slice A3 (stayM z.1 z.2 who s).length c3)).cell? ⟨w1.heap.size, 0, none⟩ = some (.slice A3 (stayM z.1 z.2 who s).length c3) := by4.cell 0
           have ho4' : OB 4 (w3.setCell ⟨w1.heap.size, 0, none⟩ (.slice A3 (stayM z.1 z.2 who s).length c3)) _ (.slice A3 (stayM z.1 z.2 who s).length c3) (stayM z.1 z.2 who s) := ownsRow_setCell_below ho3 (by show w1.heap.size < w2.heap.size; exact bc2.lt) _
           have ho4 := ho4'.reads
           clear ho4'
           go_wp2_with fail
           refine (firstMoves (fun _ u => gb (stayM z.1 z.2 who s) u) 89 #[.pointer (some ⟨w1.heap.size, 0, none⟩)] _ _ _ _ _ _ _ _ _ _ _ _ (stayM z.1 z.2 who s) _ _ (Nat.le_refl _) (hr.keep (keeps_below hw4)) (hrr.keep (keeps_below hw4)) ho4 HF.out HSL.out planFn_enter (fun w' v u hbw hv hu => planFn A3 _ c3 (stayM z.1 z.2 who s) v u (w1.heap.size) w' ((by4.below hbw by4.lt).cell 0) (ho4.keep (keeps_below hbw)) (by rw [HSL.out]; exact hu))).mono ?_
           rintro e w5 ⟨v5, rfl, ho5, hb5⟩
           go_wp2
           go_ret
           exact ⟨_, rfl, by rw [E.out]; exact ho5.more (Nat.le_trans hB hw4.size), (below_then hb5 hw4.size hw4).mono hB⟩)
        | (have tok := bw3
           clear tok
           have hne : w.heap.size ≠ w2.heap.size := by have := bx1.lt; have := hw2.size; have := bx2.lt; omega
           have hge : w.heap.size ≤ w2.heap.size := by have := bx1.lt; have := hw2.size; omega
           have hw4 : Below w.heap.size w (w3.setCell ⟨w2.heap.size, 0, none⟩ (.slice A3 (stayM z.1 z.2 who s).length c3)) := below_set (by exact hge) hw3
           have bx4 := bx3.far (p := ⟨w2.heap.size, 0, none⟩) hne (.slice A3 (stayM z.1 z.2 who s).length c3)
           have by4 : Box (w3.setCell ⟨w2.heap.size, 0, none⟩ (.slice A3 (stayM z.1 z.2 who s).length c3)) (w2.heap.size) 98 #[.slice A3 (stayM z.1 z.2 who s).length c3] := bw3.set_ 0 (.slice A3 (stayM z.1 z.2 who s).length c3)
           have q40 := bx4.d0
           have q41 := bx4.d1
           have q42 : (w3.setCell ⟨w2.heap.size, 0, none⟩ (.slice A3 (stayM z.1 z.2 who s).length c3)).cell? ⟨w2.heap.size, 0, none⟩ = some (.slice A3 (stayM z.1 z.2 who s).length c3) := by4.cell 0
           have ho4' : OB 4 (w3.setCell ⟨w2.heap.size, 0, none⟩ (.slice A3 (stayM z.1 z.2 who s).length c3)) _ (.slice A3 (stayM z.1 z.2 who s).length c3) (stayM z.1 z.2 who s) := ownsRow_setCell_below ho3 (hlt2) _
           have ho4 := ho4'.reads
           clear ho4'
           go_wp2_with fail
           refine (firstMoves (fun _ u => gb (stayM z.1 z.2 who s) u) 89 #[.pointer (some ⟨w2.heap.size, 0, none⟩)] _ _ _ _ _ _ _ _ _ _ _ _ (stayM z.1 z.2 who s) _ _ (Nat.le_refl _) (hr.keep (keeps_below hw4)) (hrr.keep (keeps_below hw4)) ho4 HF.out HSL.out planFn_enter (fun w' v u hbw hv hu => planFn A3 _ c3 (stayM z.1 z.2 who s) v u (w2.heap.size) w' ((by4.below hbw by4.lt).cell 0) (ho4.keep (keeps_below hbw)) (by rw [HSL.out]; exact hu))).mono ?_
           rintro e w5 ⟨v5, rfl, ho5, hb5⟩
           go_wp2
           go_ret
           exact ⟨_, rfl, by rw [E.out]; exact ho5.more (Nat.le_trans hB hw4.size), (below_then hb5 hw4.size hw4).mono hB⟩)
        | (have hbb : Below w3.heap.size w3 (w3.alloc (.cells #[.slice A3 (stayM z.1 z.2 who s).length c3] 98)) := below_alloc (Nat.le_refl _) (Below.refl _ _)
           have hw4 := below_then hbb hw3.size hw3
           have bx4 := bx3.below hbb bx3.lt
           have by4 := Box.new w3 98 #[.slice A3 (stayM z.1 z.2 who s).length c3]
           have q40 := bx4.d0
           have q41 := bx4.d1
           have q42 : (w3.alloc (.cells #[.slice A3 (stayM z.1 z.2 who s).length c3] 98)).cell? ⟨w3.heap.size, 0, none⟩ = some (.slice A3 (stayM z.1 z.2 who s).length c3) := by4.cell 0
           have ho4 := ho3.reads.keep (keeps_below hbb)
           go_wp2_with fail
           refine (firstMoves (fun _ u => gb (stayM z.1 z.2 who s) u) 89 #[.pointer (some ⟨w3.heap.size, 0, none⟩)] _ _ _ _ _ _ _ _ _ _ _ _ (stayM z.1 z.2 who s) _ _ (Nat.le_refl _) (hr.keep (keeps_below hw4)) (hrr.keep (keeps_below hw4)) ho4 HF.out HSL.out planFn_enter (fun w' v u hbw hv hu => planFn A3 _ c3 (stayM z.1 z.2 who s) v u (w3.heap.size) w' ((by4.below hbw by4.lt).cell 0) (ho4.keep (keeps_below hbw)) (by rw [HSL.out]; exact hu))).mono ?_
           rintro e w5 ⟨v5, rfl, ho5, hb5⟩
           go_wp2
           go_ret
           exact ⟨_, rfl, by rw [E.out]; exact ho5.more (Nat.le_trans hB hw4.size), (below_then hb5 hw4.size hw4).mono hB⟩)
end Go.Proofs.Ytefjhkcafcchlaa
