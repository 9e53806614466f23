/- l15Stay, stayIn, StayWon: spec and impl. -/
import Derived.Test.YtngadlpfheakiaaGreat
import Derived.Deep.RegionHeld3
namespace Go.Proofs.Ytngadlpfheakiaa
open Go.RowKit

/-- the marks of the greatest set that who need not leave -/
noncomputable def stayM (o : List Int) (n : List (List Int)) (who : Int) (s : List Int) : List Bool := gfp (intoB o n who) o.length (mkM o.length s)
set_option maxRecDepth 100000 in
theorem stayFn (A0 A1 D : Option Addr) (n0 c0 n1 c1 m d : Nat) (o : List Int) (n : List (List Int)) (who : Int) (v : Nat) (ms : List Bool) (ba bw : Nat) (w : World) (B : Nat) (hB : B ≤ w.heap.size) (hba : Box w ba 30 #[.slice A0 n0 c0, .slice A1 n1 c1]) (hbw : w.cell? ⟨bw, 0, none⟩ = some (.int .i64 who))
    (ha : RI w A0 n0 c0 o) (hb : RII w A1 n1 c1 n) (hm : RB w D m d ms) (hf : fineAr o n) (hv : v < n0) (hml : m = n0) :
    Calls Try.prog 149 #[.int .i64 (v : Int), .slice D m d, .pointer (some ⟨ba, 0, none⟩), .pointer (some ⟨bw, 0, none⟩)] w fun e w' => e = .returned (.bool (intoB o n who ms v)) ∧ Below B w w' := by
  have q0 := hba.d0; have q1 := hba.d1
  have HML := Lib.hid hml
  clear hml
  go_enter Try.func149, Try.ntmps149
  go_wp2_with fail
  refine (moves _ _ _ _ _ _ _ _ _ _ _ _ _ _ _ _ (Nat.le_refl _) ha hb hm hf hv HML.out).mono ?_; rintro e w1 ⟨rfl, hb1⟩
  go_wp2
  go_ret
  exact ⟨rfl, hb1.mono hB⟩
theorem stayFn_enter (args : Array Value) (w : World) : (callFunc 149 args).run Try.prog w = .ok (.enter 149 args) w := by kernel_rfl

set_option maxRecDepth 100000 in
set_option maxHeartbeats 1600000 in
theorem stayIn (A0 A1 C : Option Addr) (n0 c0 n1 c1 k d : Nat) (o : List Int) (n : List (List Int)) (who : Int) (s : List Int) (w : World) (B : Nat) (hB : B ≤ w.heap.size) (ha : RI w A0 n0 c0 o) (hb : RII w A1 n1 c1 n) (hs : RI w C k d s) (hf : fineAr o n) (hst : setB s o.length = true) :
    Calls Try.prog 111 #[.agg #[.slice A0 n0 c0, .slice A1 n1 c1], .int .i64 who, .slice C k d] w fun e w' => ∃ v, e = .returned v ∧ OI 2 w' B v (listM (stayM o n who s)) ∧ Below B w w' := by
  have hmf : ∀ (fn : Fn) (first cap : Array Value) (w : World), (Instr.makeFunc fn first cap).run Try.prog w = .ok (.func fn first cap) w := fun _ _ _ _ => rfl
  have HL := Lib.hid ha.len
  have hm0 : 0 < n0 := by have := hf.1; rw [HL.out] at this; omega
  have hm1 : n0 ≤ 1048576 := by have := hf.2.1; rw [HL.out] at this; omega
  have hset : setB s (n0 : Int) = true := by rw [← HL.out]; exact hst
  have HS := Lib.hid (show stayM o n who s = gfp (intoB o n who) (mkM n0 s).length (mkM n0 s) by unfold stayM; rw [HL.out, mkM_len])
  have HF := Lib.hid hf
  have hba : Below w.heap.size w ((w.alloc (.cells #[.slice A0 n0 c0, .slice A1 n1 c1] 30)).alloc (.cells #[.int .i64 who] 2)) := below_alloc (Nat.le_refl _) (below_alloc (Nat.le_refl _) (Below.refl _ _))
  have bx := (Box.new w 30 #[.slice A0 n0 c0, .slice A1 n1 c1]).alloc (.cells #[.int .i64 who] 2)
  have by' : Box ((w.alloc (.cells #[.slice A0 n0 c0, .slice A1 n1 c1] 30)).alloc (.cells #[.int .i64 who] 2)) (w.heap.size + 1) 2 #[.int .i64 who] := Box.new' (by simp)
  have q0 := bx.d0; have q1 := bx.d1
  have hm : (mkM n0 s).length = n0 := mkM_len _ _
  have HM := Lib.hid hm
  clear hf hst hm
  go_enter Try.func111, Try.ntmps111
  go_wp2_with fail
  generalize hW : ((w.alloc (.cells #[.slice A0 n0 c0, .slice A1 n1 c1] 30)).alloc (.cells #[.int .i64 who] 2)) = W at *
  have hWs := hba.size
  clear hW
  go_region_held3 (fun w' => w'.cell? ⟨w.heap.size, 0, none⟩ = some (.slice A0 n0 c0) ∧ w'.cell? ⟨w.heap.size, 1, none⟩ = some (.slice A1 n1 c1))
    (refine ⟨?_, ?_⟩ <;> repeat (first | with_reducible assumption | with_reducible refine keepD ?_ | with_reducible refine keepA ?_))
    (first
      | (go_at_call 64
         refine (markOf _ _ _ _ _ _ _ _ _ s _ _ (Nat.le_refl _) (by exact (hs.keep (keeps_below (Below.drew hba)))) hset hm1).mono ?_
         rintro e w1 ⟨v1, rfl, ho1, hb1⟩
         obtain ⟨A2, c2, rfl⟩ := ho1.form
         have hw1 := below_then hb1 hWs (Below.drew hba)
         have bx1 := bx.drew.below hb1 bx.lt
         have by1 := by'.drew.below hb1 by'.lt
         have q10 := bx1.d0
         have q11 := bx1.d1)
      | (go_at_call 113
         refine (greatestSet (intoB o n who) 149 #[.pointer (some ⟨w.heap.size, 0, none⟩), .pointer (some ⟨w.heap.size + 1, 0, none⟩)] _ _ _ _ _ _ _ _ _ (mkM n0 s) _ _ (Nat.le_refl _) (by exact ho1.reads) (by rw [HM.out]; exact hm0) (by rw [HM.out]; exact hm1) stayFn_enter (fun w' A c r v hbw hr hv => stayFn A0 A1 A n0 c0 n1 c1 _ c o n who v r w.heap.size (w.heap.size + 1) w' _ (Nat.le_refl _) (bx1.below hbw bx1.lt) ((by1.below hbw by1.lt).cell 0) ((ha.keep (keeps_below hw1)).keep (keeps_below hbw)) ((hb.keep (keeps_below hw1)).keep (keeps_below hbw)) hr HF.out (by rw [← HM.out]; exact hv) HM.out)).mono ?_
         rintro e w2 ⟨v2, rfl, ho2, hl2, hb2⟩
         rw [← HS.out] at ho2 hl2
         generalize hG : stayM o n who s = G at ho2 hl2
         have HG := Lib.hid hG
         clear hG
         obtain ⟨A3, c3, rfl⟩ := ho2.form
         have hl3 : G.length ≤ 1048576 := by rw [hl2, HM.out]; exact hm1
         clear hl2
         have hw2 := below_then hb2 hw1.size hw1
         have bx2 := bx1.below hb2 bx1.lt
         have q20 := bx2.d0
         have q21 := bx2.d1)
      | (go_at_call 87
         refine (listOf _ _ _ _ _ _ (Nat.le_refl _) ho2.reads hl3).mono ?_
         rintro e w3 ⟨v3, rfl, ho3, hb3⟩
         have hw3 := below_then hb3 hw2.size hw2
         have bx3 := bx2.below hb3 bx2.lt
         have q30 := bx3.d0
         have q31 := bx3.d1))
  all_goals
    go_wp2
    go_ret
    exact ⟨_, rfl, by rw [HG.out]; exact ho3.more (by have := hw2.size; omega), hw3.mono hB⟩
end Go.Proofs.Ytngadlpfheakiaa
