/- Texts that the proof reaches: WelS, WelF, WelV, PathL. -/
import Derived.Test.YtjjaolndencplaaGreatBn6
namespace Go.Proofs.YtjjaolndencplaaGreat
open Go.RowKit

/-- of a part, without the Ask of the first i broken pairs and x of the next one's -/
def CutS (ps : List PairD) (p : List Int) (i x u : Nat) : Prop := (u : Int) ∈ leftL ps p i ∧ ¬ InRow (gp ps (gi (brokenL ps p) i).toNat).1 x u
section
variable {ps : List PairD} {p : List Int} {i x u v : Nat}
theorem cut_zero : CutS ps p i 0 u ↔ (u : Int) ∈ leftL ps p i := by
  unfold CutS InRow
  exact ⟨fun h => h.1, fun h => ⟨h, fun ⟨j, hj, _⟩ => absurd hj (by omega)⟩⟩
theorem cut_all : CutS ps p i (gp ps (gi (brokenL ps p) i).toNat).1.length u ↔ (u : Int) ∈ leftL ps p (i + 1) := by
  unfold CutS
  rw [inRow_all, leftL, less_memB]
theorem cut_step (hx : x < (gp ps (gi (brokenL ps p) i).toNat).1.length) (hu : gi (gp ps (gi (brokenL ps p) i).toNat).1 x = (u : Int)) : CutS ps p i (x + 1) v ↔ CutS ps p i x v ∧ ¬ v = u := by
  unfold CutS
  rw [inRow_step hx hu, not_or, and_assoc]
theorem MkB.take {N : Nat} {ls : List Bool} {Q Q' : Nat → Prop} (h : MkB N ls Q) (e : ∀ v, Q' v ↔ Q v ∧ ¬ v = u) : MkB N (ls.set u false) Q' := by
  refine ⟨by rw [List.length_set]; exact h.1, fun v => ?_⟩
  rw [e, ← h.2 v]
  unfold gb
  rw [List.getD_eq_getElem?_getD, List.getD_eq_getElem?_getD, List.getElem?_set]
  by_cases e : u = v
  · subst e
    rw [if_pos rfl]
    by_cases hl : u < ls.length
    · rw [if_pos hl]; simp
    · rw [if_neg hl]; simp
  · rw [if_neg e]
    exact ⟨fun h => ⟨h, fun h2 => e h2.symm⟩, fun h => h.1⟩
end
/-- what the marks say while one part's marks are added -/
def AddS (Q R : Nat → Prop) (x v : Nat) : Prop := Q v ∨ (v < x ∧ R v)
theorem MkB.add {N x : Nat} {ls : List Bool} {Q R : Nat → Prop} (h : MkB N ls (AddS Q R x)) (hx : x < N) {b : Bool} (hb : b = true ↔ Q x ∨ R x) : MkB N (ls.set x b) (AddS Q R (x + 1)) := by
  refine ⟨by rw [List.length_set]; exact h.1, fun v => ?_⟩
  have h2 := h.2 v
  unfold gb at h2 ⊢
  rw [List.getD_eq_getElem?_getD] at h2 ⊢
  rw [List.getElem?_set]
  unfold AddS at h2 ⊢
  by_cases e : x = v
  · subst e
    rw [if_pos rfl, if_pos (by rw [h.1]; exact hx)]
    simp only [Option.getD_some]
    rw [hb]
    exact or_congr Iff.rfl ⟨fun h => ⟨by omega, h⟩, fun h => h.2⟩
  · rw [if_neg e, h2]
    exact or_congr Iff.rfl (and_congr ⟨fun h => by omega, fun h => by omega⟩ Iff.rfl)
set_option maxRecDepth 100000 in
set_option maxHeartbeats 3200000 in
theorem specGoing (N : Nat) (n : List (List Int)) (ps : List PairD) (hN : N ≤ 256)
    (hE : ∀ x, x < N → (gl n x).length ≤ 16 ∧ ∀ j, j < (gl n x).length → ∃ m : Nat, gi (gl n x) j = (m : Int) ∧ m < N) (hps : ps.length ≤ 4 ∧ ∀ k, k < ps.length → setB (gp ps k).1 (N : Int) = true) :
    ∀ (M : Nat) (A0 A1 P C : Option Addr) (c0 c1 m d d2 : Nat) (ins : List Bool) (w : World) (B : Nat), B ≤ w.heap.size → N < M + cntF ins → RII w A1 N c1 n → RPS w P m d ps → RB w C N d2 ins →
      Calls Tryz.prog 42 #[.agg #[.slice A0 N c0, .slice A1 N c1], .slice P m d, .slice C N d2] w fun e w' => ∃ (b : Nat) (out : List Bool), e = .returned (.slice (some ⟨b, 0, none⟩) N N) ∧ OB 4 w' B (.slice (some ⟨b, 0, none⟩) N N) out ∧ MkB N out (WellG n ps (fun u => gb ins u = true)) ∧ Below B w w' := by
  intro M
  induction M with
  | zero =>
    intro A0 A1 P C c0 c1 m d d2 ins w B hB hM _ _ hi
    have h1 := cntF_le ins
    rw [hi.len] at h1
    omega
  | succ M IH =>
    intro A0 A1 P C c0 c1 m d d2 ins w B hB hM hx hp hi
    have HIH := Lib.hid IH
    have HE := Lib.hid hE
    have HM := Lib.hid hM
    have HPS := Lib.hid hps
    have HIL := Lib.hid hi.len
    have HPL := Lib.hid hp.len
    have hm4 : m ≤ 4 := by have := hps.1; rw [hp.len] at this; exact this
    have p1 := hp.cap; have p2 := hp.top
    have i1 := hi.cap; have i2 := hi.top
    have bx := Box.new w 30 #[.slice A0 N c0, .slice A1 N c1]
    have hba : Below w.heap.size w (w.alloc (.cells #[.slice A0 N c0, .slice A1 N c1] 30)) := below_alloc (Nat.le_refl _) (Below.refl _ _)
    have HZ : Hid ((w.alloc (.cells #[.slice A0 N c0, .slice A1 N c1] 30)).heap.size = w.heap.size + 1) := Lib.hid (by simp)
    clear IH hE hM hps
    go_enter Tryz.func42, Tryz.ntmps42
    go_wp2_with (refine wpList_makeB rfl (.tmp 17) rfl _ N rfl (by omega) ?_; intro w1 hown hb1; rw [HZ.out] at hown ⊢; have bx1 := bx.below hb1 bx.lt; replace hb1 := below_then hb1 hba.size hba; replace hown := hown.more (lo' := w.heap.size) (by omega); clear hba bx; have q10 := bx1.d0; have q11 := bx1.d1)
    have hpt := specParts A0 A1 C N c0 N c1 d2 N n ins w1 _ (Nat.le_refl _) (hx.keep (keeps_below hb1)) (hi.keep (keeps_below hb1)) rfl hN HE.out
    go_wp2_with fail
    refine hpt.mono ?_; rintro e w2 ⟨Aq, cq, qs, rfl, hq, hqs, hb2⟩
    have HQS := Lib.hid hqs
    have hw2 := below_then hb2 hb1.size hb1
    have bx2 := bx1.below hb2 bx1.lt
    have ho2 := hown.below hb2
    have r3 := hq.cap; have r4 := hq.top
    have hk2 := Kp.refl w2
    have H2 : Hid (MkB N (List.replicate N false) (WelJ n ps qs 0)) := Lib.hid ⟨by simp, fun v => ⟨fun h => (by rw [gb_repF] at h; cases h), fun ⟨i, hi, _⟩ => absurd hi (by omega)⟩⟩
    clear hpt hqs q10 q11 hown bx1 hb1 hb2
    go_wp2
    go_loopw [9] (fun i wr => ∃ (j : Nat) (ls : List Bool), j ≤ qs.length ∧ i = .int .i64 (j : Int) ∧ OB 4 wr w.heap.size (.slice (some ⟨w.heap.size + 1, 0, none⟩) N N) ls ∧ Hid (MkB N ls (WelJ n ps qs j)) ∧ Box wr w.heap.size 30 #[.slice A0 N c0, .slice A1 N c1] ∧ Kp w2 wr ∧ Below w.heap.size w wr) (fun i _ => qs.length - (intOf i).toNat)
    case atStart => exact ⟨0, _, Nat.zero_le _, rfl, ho2, H2, bx2, hk2, hw2⟩
    case round =>
      clear ho2 H2 bx2 hk2 hw2
      obtain ⟨j, ls, hj, rfl, ho, HI, bX, hkr, hbr⟩ := hrel
      obtain ⟨wo, rfl⟩ : ∃ wo : World, wo = wr := ⟨_, rfl⟩
      by_cases hlt : j < qs.length
      · obtain ⟨bq, oq, Ap, np, cp, rfl, hcq0, hrq0⟩ := hq.at_ hlt
        have hcq := hkr _ _ hcq0 (by simp)
        have hrq := hrq0.kp hkr
        have t5 := hrq.cap; have t6 := hrq.top
        have hmem : gl qs j ∈ qs := by
          have h1 : gl qs j = qs[j] := by simp [gl, hlt]
          rw [h1]; exact List.getElem_mem hlt
        have HMEM := Lib.hid hmem
        have HPP : Hid (setB (gl qs j) (N : Int) = true) := Lib.hid (HQS.out.2.1 _ hmem)
        have HNP := Lib.hid hrq.len
        have h0N : 0 < N := by
          have h1 := hi.len
          obtain ⟨c, hc, hall⟩ := HQS.out.1.1 _ hmem
          have h2 := way_in hc.1
          have := lt_ins hi.len h2
          omega
        have hmk := l16Marks N Ap np cp (gl qs j) wo _ (Nat.le_refl _) hrq HPP.out (by omega)
        clear hcq0 hrq0 hmem
        go_wp2_with fail
        refine hmk.mono ?_; rintro e w3 ⟨v3, rfl, ho3, hb3⟩
        obtain ⟨g3, c3, rfl⟩ := ho3.form2 (by rw [mkM_len]; exact h0N)
        rw [mkM_len] at ho3 ⊢
        have hw3 := below_then hb3 hbr.size hbr
        have hk3 := hkr.then (Kp.of hb3 (Nat.le_refl _))
        have hpw : RPS w3 P m d ps := hp.keep (keeps_below hw3)
        have hrq3 := hrq.keep (keeps_below hb3)
        have hcq3 := keeps_below hb3 _ _ hcq
        have hbk := l16Broken P Ap m d np cp ps (gl qs j) w3 _ (Nat.le_refl _) hpw hrq3 (by omega)
        clear hmk hcq
        go_wp2_with fail
        refine hbk.mono ?_; rintro e w4 ⟨v4, rfl, ho4, hb4⟩
        obtain ⟨A4, c4, rfl⟩ := ho4.form
        have u1 := ho4.reads.cap; have u2 := ho4.reads.top
        have hw4 := below_then hb4 hw3.size hw3
        have hk4 := hk3.then (Kp.of hb4 (Nat.le_refl _))
        have ho34 := (ho3.below hb4).more (lo' := wo.heap.size) (Nat.le_refl _)
        have hoG4 := (ho.below hb3).below hb4
        have bX4 := (bX.below hb3 bX.lt).below hb4 (bX.below hb3 bX.lt).lt
        have hgo : w.heap.size + 1 < wo.heap.size := (ho.lt _ rfl).2
        have hg3 : wo.heap.size ≤ g3 := (ho34.lt _ rfl).1
        by_cases hbn : brokenL ps (gl qs j) = []
        · have HBN := Lib.hid hbn
          have hb0 : (brokenL ps (gl qs j)).length = 0 := by rw [hbn]; rfl
          rw [hb0] at ho4 u1 ⊢
          have HIN : Hid (MkB N (mkM N (gl qs j)) (fun v => (v : Int) ∈ gl qs j)) := Lib.hid ⟨mkM_len N _, fun v => by
            by_cases hv : v < N
            · exact mkM_iff hv
            · refine ⟨fun h => absurd (lt_ins (mkM_len N _) h) hv, fun h => ?_⟩
              have := set_mem HPP.out h
              omega⟩
          obtain ⟨gI, rfl⟩ : ∃ gI, gI = g3 := ⟨_, rfl⟩
          obtain ⟨cI, rfl⟩ : ∃ cI, cI = c3 := ⟨_, rfl⟩
          obtain ⟨inn, hinn⟩ : ∃ inn, inn = mkM N (gl qs j) := ⟨_, rfl⟩
          rw [← hinn] at HIN ho34
          have hoI := ho34
          have hoG := hoG4
          have bXv := bX4
          have hkv := hk4
          have hwv := hw4
          clear hinn hbn hb0 ho34 hoG4 bX4 hk4 hw4 ho bX hkr hbr ho3 hb3 hw3 hk3 hpw hrq3 hcq3 hbk hb4 ho4 hrq
          have hgI : w.heap.size + 1 < gI := by omega
          have H7 : Hid (MkB N ls (AddS (WelJ n ps qs j) (fun v => (v : Int) ∈ gl qs j) 0)) := Lib.hid (HI.out.cong (fun v => ⟨fun h => h.elim id (fun h => absurd h.1 (by omega)), .inl⟩))
          go_wp2
          go_loopw [15] (fun i wi => ∃ (x : Nat) (l3 : List Bool), x ≤ N ∧ i = .int .i64 (x : Int) ∧ OB 4 wi w.heap.size (.slice (some ⟨w.heap.size + 1, 0, none⟩) N N) l3 ∧ Hid (MkB N l3 (AddS (WelJ n ps qs j) (fun v => (v : Int) ∈ gl qs j) x)) ∧ OB 4 wi wo.heap.size (.slice (some ⟨gI, 0, none⟩) N cI) inn ∧ Box wi w.heap.size 30 #[.slice A0 N c0, .slice A1 N c1] ∧ Kp w2 wi ∧ Below w.heap.size w wi) (fun i _ => N - (intOf i).toNat)
          case atStart => exact ⟨0, ls, Nat.zero_le _, rfl, hoG, H7, hoI, bXv, hkv, hwv⟩
          case round =>
            clear hoG H7 hoI bXv hkv hwv
            obtain ⟨x, l3, hxN, rfl, hoG, H7, hoI, bXv, hkv, hwv⟩ := hrel
            by_cases hxl : x < N
            · have hcg := hoG.at_ (i := x) (by rw [H7.out.1]; exact hxl)
              have hfg := hoG.hot (i := x) (by rw [H7.out.1])
              have hci := hoI.at_ (i := x) (by rw [HIN.out.1]; exact hxl)
              have hstep : ∀ b : Bool, (b = true ↔ WelJ n ps qs j x ∨ (fun v => (v : Int) ∈ gl qs j) x) → OB 4 (wr.setCell ⟨w.heap.size + 1, x, none⟩ (.bool b)) w.heap.size (.slice (some ⟨w.heap.size + 1, 0, none⟩) N N) (l3.set x b) ∧ Hid (MkB N (l3.set x b) (AddS (WelJ n ps qs j) (fun v => (v : Int) ∈ gl qs j) (x + 1))) ∧ OB 4 (wr.setCell ⟨w.heap.size + 1, x, none⟩ (.bool b)) wo.heap.size (.slice (some ⟨gI, 0, none⟩) N cI) inn ∧ Box (wr.setCell ⟨w.heap.size + 1, x, none⟩ (.bool b)) w.heap.size 30 #[.slice A0 N c0, .slice A1 N c1] ∧ Kp w2 (wr.setCell ⟨w.heap.size + 1, x, none⟩ (.bool b)) ∧ Below w.heap.size w (wr.setCell ⟨w.heap.size + 1, x, none⟩ (.bool b)) := fun b hb =>
                ⟨hoG.set_ (by rw [H7.out.1]) b, Lib.hid (H7.out.add hxl hb), hoI.off (show gI ≠ w.heap.size + 1 by omega) _, bXv.far (p := ⟨w.heap.size + 1, x, none⟩) (show w.heap.size ≠ w.heap.size + 1 by omega) _, hkv.mark hoG x (.bool b), below_set (p := ⟨w.heap.size + 1, x, none⟩) (u := .bool b) (by show w.heap.size ≤ w.heap.size + 1; omega) hwv⟩
              have HST := Lib.hid hstep
              have HQ : Hid (gb l3 x = true ↔ WelJ n ps qs j x) := Lib.hid ((H7.out.2 x).trans ⟨fun h => h.elim id (fun h => absurd h.1 (by omega)), .inl⟩)
              have HR : Hid (gb inn x = true ↔ (fun v => (v : Int) ∈ gl qs j) x) := Lib.hid (HIN.out.2 x)
              clear hstep
              cases e1 : gb l3 x with
              | true =>
                have HS2 := Lib.hid (HST.out true ⟨fun _ => .inl (HQ.out.1 e1), fun _ => rfl⟩)
                rw [e1] at hcg
                clear e1
                go_wp2
                exact ⟨⟨x + 1, l3.set x true, by omega, by go_num, HS2.out⟩, by simp [intOf]; omega⟩
              | false =>
                cases e2 : gb inn x with
                | true =>
                  have HS2 := Lib.hid (HST.out true ⟨fun _ => .inr (HR.out.1 e2), fun _ => rfl⟩)
                  rw [e1] at hcg
                  rw [e2] at hci
                  clear e1 e2
                  go_wp2
                  exact ⟨⟨x + 1, l3.set x true, by omega, by go_num, HS2.out⟩, by simp [intOf]; omega⟩
                | false =>
                  have HS2 := Lib.hid (HST.out false ⟨fun h => (by cases h), fun h => h.elim (fun h => by rw [HQ.out.2 h] at e1; cases e1) (fun h => by rw [HR.out.2 h] at e2; cases e2)⟩)
                  rw [e1] at hcg
                  rw [e2] at hci
                  clear e1 e2
                  go_wp2
                  exact ⟨⟨x + 1, l3.set x false, by omega, by go_num, HS2.out⟩, by simp [intOf]; omega⟩
            · obtain rfl : x = N := by omega
              go_wp2
              exact ⟨⟨j + 1, l3, by omega, by go_num, hoG, Lib.hid (H7.out.cong (fun v => by
                rw [welJ_fine HBN.out]
                exact or_congr Iff.rfl ⟨fun h => ⟨by have := set_mem HPP.out h; omega, h⟩, fun h => h.2⟩)), bXv, hkv, hwv⟩, by simp [intOf]; omega⟩
        · have HBN := Lib.hid hbn
          have hb0 : 0 < (brokenL ps (gl qs j)).length := by
            cases h : brokenL ps (gl qs j) with
            | nil => exact absurd h hbn
            | cons a t => simp
          have HIN : Hid (MkB N (mkM N (gl qs j)) (fun v => (v : Int) ∈ leftL ps (gl qs j) 0)) := Lib.hid ⟨mkM_len N _, fun v => by
            show gb (mkM N (gl qs j)) v = true ↔ (v : Int) ∈ gl qs j
            by_cases hv : v < N
            · exact mkM_iff hv
            · refine ⟨fun h => absurd (lt_ins (mkM_len N _) h) hv, fun h => ?_⟩
              have := set_mem HPP.out h
              omega⟩
          have ho4r := ho4.reads
          have hkx := Kp.refl w4
          clear hbn ho bX hkr hbr ho3 hb3 hw3 hk3 hpw hrq3 hcq3 hbk hb4 hrq ho4
          go_wp2
          go_loopw [12] (fun i wi => ∃ (x : Nat) (inn : List Bool), x ≤ (brokenL ps (gl qs j)).length ∧ i = .int .i64 (x : Int) ∧ OB 4 wi wo.heap.size (.slice (some ⟨g3, 0, none⟩) N c3) inn ∧ Hid (MkB N inn (fun v => (v : Int) ∈ leftL ps (gl qs j) x)) ∧ OB 4 wi w.heap.size (.slice (some ⟨w.heap.size + 1, 0, none⟩) N N) ls ∧ Box wi w.heap.size 30 #[.slice A0 N c0, .slice A1 N c1] ∧ Kp w4 wi ∧ Below w.heap.size w wi) (fun i _ => (brokenL ps (gl qs j)).length - (intOf i).toNat)
          case atStart => exact ⟨0, _, Nat.zero_le _, rfl, ho34, HIN, hoG4, bX4, hkx, hw4⟩
          case round =>
            clear ho34 HIN hoG4 bX4 hkx hw4
            obtain ⟨x, inn, hxb, rfl, hoI, HIN, hoG, bX, hkx, hbr⟩ := hrel
            by_cases hxl : x < (brokenL ps (gl qs j)).length
            · obtain ⟨bb, ob, hA4, hcb0⟩ := ho4r.at_ hxl
              subst hA4
              have hcb := hkx _ _ hcb0 (by simp)
              obtain ⟨kk, hkk, hkl⟩ := broken_nat (gi_mem hxl)
              rw [hkk] at hcb
              rw [HPL.out] at hkl
              have HKK : Hid ((gi (brokenL ps (gl qs j)) x).toNat = kk) := Lib.hid (by rw [hkk]; simp)
              obtain ⟨bz, oz, Aa, na, ca, Ag, ng, cg, hP, hca0, hcg0, hra0, hrg0⟩ := hp.at_ hkl
              subst hP
              have hca := keeps_below hbr _ _ hca0
              have s1 := hra0.cap; have s2 := hra0.top
              have HRA := Lib.hid hra0.len
              have HSA := Lib.hid (HPS.out.2 kk (by rw [HPL.out]; exact hkl))
              have H5 : Hid (MkB N inn (CutS ps (gl qs j) x 0)) := Lib.hid (HIN.out.cong (fun v => cut_zero))
              have hky := Kp.refl wr
              obtain ⟨wx, rfl⟩ : ∃ wx : World, wx = wr := ⟨_, rfl⟩
              clear hkk HIN
              go_wp2
              go_loopw [14] (fun i wi => ∃ (y : Nat) (l3 : List Bool), y ≤ na ∧ i = .int .i64 (y : Int) ∧ OB 4 wi wo.heap.size (.slice (some ⟨g3, 0, none⟩) N c3) l3 ∧ Hid (MkB N l3 (CutS ps (gl qs j) x y)) ∧ OB 4 wi w.heap.size (.slice (some ⟨w.heap.size + 1, 0, none⟩) N N) ls ∧ Box wi w.heap.size 30 #[.slice A0 N c0, .slice A1 N c1] ∧ Kp w4 wi ∧ Below w.heap.size w wi) (fun i _ => na - (intOf i).toNat)
              case atStart => exact ⟨0, inn, Nat.zero_le _, rfl, hoI, H5, hoG, bX, hkx, hbr⟩
              case round =>
                clear hoI H5 hoG bX hkx hbr hcb hca hky
                obtain ⟨y, l3, hya, rfl, hoI, H5, hoG, bX, hkx, hbr⟩ := hrel
                by_cases hyl : y < na
                · have hra := hra0.keep (keeps_below hbr)
                  obtain ⟨u, hu, hun⟩ := set_nat HSA.out (show y < (gp ps kk).1.length by rw [HRA.out]; exact hyl)
                  obtain ⟨b6, o6, hAa, hcy⟩ := hra.at_ hyl
                  subst hAa
                  rw [hu] at hcy
                  have HU := Lib.hid hu
                  have hcu := hoI.at_ (i := u) (by rw [H5.out.1]; exact hun)
                  have hfu := hoI.hot (i := u) (by rw [H5.out.1])
                  have hoS := hoI.set_ (i := u) (by rw [H5.out.1]) false
                  have hoGS := hoG.off (p := ⟨g3, u, none⟩) (show w.heap.size + 1 ≠ g3 by omega) (.bool false)
                  have bXS := bX.far (p := ⟨g3, u, none⟩) (show w.heap.size ≠ g3 by omega) (.bool false)
                  have hwS := below_set (p := ⟨g3, u, none⟩) (u := .bool false) (by show w.heap.size ≤ g3; omega) hbr
                  have hkS : Kp w4 (wr.setCell ⟨g3, u, none⟩ (.bool false)) := hkx.then (fun a v h1 h2 => by
                    rw [World.cell?_setCell_other _ _ _ _ (by intro e; rw [← e] at h1; rw [hcu] at h1; injection h1 with h1; exact h2 _ h1.symm)]
                    exact h1)
                  clear hu
                  go_wp2
                  go_roundw
                  case rel => exact ⟨y + 1, l3.set u false, by omega, by go_num, hoS, Lib.hid (H5.out.take (fun v => cut_step (by rw [HKK.out, HRA.out]; exact hyl) (by rw [HKK.out]; exact HU.out))), hoGS, bXS, hkS, hwS⟩
                  case measure => simp [intOf]; omega
                · obtain rfl : y = na := by omega
                  go_wp2
                  exact ⟨⟨x + 1, l3, by omega, by go_num, hoI, Lib.hid (H5.out.cong (fun v => by
                    have h1 := cut_all (ps := ps) (p := gl qs j) (i := x) (u := v)
                    rw [HKK.out, HRA.out] at h1
                    exact h1.symm)), hoG, bX, hkx, hbr⟩, by simp [intOf]; omega⟩
            · obtain rfl : x = (brokenL ps (gl qs j)).length := by omega
              obtain ⟨w5, rfl⟩ : ∃ w5 : World, w5 = wr := ⟨_, rfl⟩
              have hrl : ∀ u, gb inn u = true ↔ RestS ps (gl qs j) u := fun u => (HIN.out.2 u).trans leftL_all
              have HRL := Lib.hid hrl
              have hIH := HIH.out A0 A1 P (some ⟨g3, 0, none⟩) c0 c1 m d c3 inn w5 w5.heap.size (Nat.le_refl _) (by
                have h1 := rest_lt (ps := ps) HQS.out.1 HMEM.out (by rw [HIN.out.1, HIL.out]) hrl HBN.out
                have h2 := HM.out
                omega) (hx.keep (keeps_below hbr)) (hp.keep (keeps_below hbr)) (by have h1 := hoI.reads; exact h1)
              have q50 := bX.d0; have q51 := bX.d1
              clear hrl
              go_wp2_with fail
              refine hIH.mono ?_; rintro e w6 ⟨gI, inn6, rfl, hoI6, hm6, hb6⟩
              have HIN6 : Hid (MkB N inn6 (WellG n ps (RestS ps (gl qs j)))) := Lib.hid (hm6.cong (fun v => WellG.cong fun u => (HRL.out u).symm))
              have hoG6 := hoG.below hb6
              have bXv := bX.below hb6 bX.lt
              have hwv := below_then hb6 hbr.size hbr
              have hkv := (hk4.then hkx).then (Kp.of hb6 (Nat.le_refl _))
              have hlo5 : wo.heap.size ≤ w5.heap.size := by
                have h1 : g3 < w5.heap.size := (hoI.lt _ rfl).2
                omega
              have hgI5 : w5.heap.size ≤ gI := (hoI6.lt _ rfl).1
              replace hoI6 := hoI6.more (lo' := wo.heap.size) hlo5
              clear hIH hoI HIN hm6 hb6 hoG bX hkx hbr q50 q51
              obtain ⟨inn, rfl⟩ : ∃ inn, inn = inn6 := ⟨_, rfl⟩
              have hoI := hoI6
              have hoG := hoG6
              have HIN := HIN6
              clear hoI6 hoG6 HIN6
              have hgI : w.heap.size + 1 < gI := by omega
              have H7 : Hid (MkB N ls (AddS (WelJ n ps qs j) (WellG n ps (RestS ps (gl qs j))) 0)) := Lib.hid (HI.out.cong (fun v => ⟨fun h => h.elim id (fun h => absurd h.1 (by omega)), .inl⟩))
              go_wp2
              go_loopw [15] (fun i wi => ∃ (x : Nat) (l3 : List Bool), x ≤ N ∧ i = .int .i64 (x : Int) ∧ OB 4 wi w.heap.size (.slice (some ⟨w.heap.size + 1, 0, none⟩) N N) l3 ∧ Hid (MkB N l3 (AddS (WelJ n ps qs j) (WellG n ps (RestS ps (gl qs j))) x)) ∧ OB 4 wi wo.heap.size (.slice (some ⟨gI, 0, none⟩) N N) inn ∧ Box wi w.heap.size 30 #[.slice A0 N c0, .slice A1 N c1] ∧ Kp w2 wi ∧ Below w.heap.size w wi) (fun i _ => N - (intOf i).toNat)
              case atStart => exact ⟨0, ls, Nat.zero_le _, rfl, hoG, H7, hoI, bXv, hkv, hwv⟩
              case round =>
                clear hoG H7 hoI bXv hkv hwv
                obtain ⟨x, l3, hxN, rfl, hoG, H7, hoI, bXv, hkv, hwv⟩ := hrel
                by_cases hxl : x < N
                · have hcg := hoG.at_ (i := x) (by rw [H7.out.1]; exact hxl)
                  have hfg := hoG.hot (i := x) (by rw [H7.out.1])
                  have hci := hoI.at_ (i := x) (by rw [HIN.out.1]; exact hxl)
                  have hstep : ∀ b : Bool, (b = true ↔ WelJ n ps qs j x ∨ (WellG n ps (RestS ps (gl qs j))) x) → OB 4 (wr.setCell ⟨w.heap.size + 1, x, none⟩ (.bool b)) w.heap.size (.slice (some ⟨w.heap.size + 1, 0, none⟩) N N) (l3.set x b) ∧ Hid (MkB N (l3.set x b) (AddS (WelJ n ps qs j) (WellG n ps (RestS ps (gl qs j))) (x + 1))) ∧ OB 4 (wr.setCell ⟨w.heap.size + 1, x, none⟩ (.bool b)) wo.heap.size (.slice (some ⟨gI, 0, none⟩) N N) inn ∧ Box (wr.setCell ⟨w.heap.size + 1, x, none⟩ (.bool b)) w.heap.size 30 #[.slice A0 N c0, .slice A1 N c1] ∧ Kp w2 (wr.setCell ⟨w.heap.size + 1, x, none⟩ (.bool b)) ∧ Below w.heap.size w (wr.setCell ⟨w.heap.size + 1, x, none⟩ (.bool b)) := fun b hb =>
                    ⟨hoG.set_ (by rw [H7.out.1]) b, Lib.hid (H7.out.add hxl hb), hoI.off (show gI ≠ w.heap.size + 1 by omega) _, bXv.far (p := ⟨w.heap.size + 1, x, none⟩) (show w.heap.size ≠ w.heap.size + 1 by omega) _, hkv.mark hoG x (.bool b), below_set (p := ⟨w.heap.size + 1, x, none⟩) (u := .bool b) (by show w.heap.size ≤ w.heap.size + 1; omega) hwv⟩
                  have HST := Lib.hid hstep
                  have HQ : Hid (gb l3 x = true ↔ WelJ n ps qs j x) := Lib.hid ((H7.out.2 x).trans ⟨fun h => h.elim id (fun h => absurd h.1 (by omega)), .inl⟩)
                  have HR : Hid (gb inn x = true ↔ (WellG n ps (RestS ps (gl qs j))) x) := Lib.hid (HIN.out.2 x)
                  clear hstep
                  cases e1 : gb l3 x with
                  | true =>
                    have HS2 := Lib.hid (HST.out true ⟨fun _ => .inl (HQ.out.1 e1), fun _ => rfl⟩)
                    rw [e1] at hcg
                    clear e1
                    go_wp2
                    exact ⟨⟨x + 1, l3.set x true, by omega, by go_num, HS2.out⟩, by simp [intOf]; omega⟩
                  | false =>
                    cases e2 : gb inn x with
                    | true =>
                      have HS2 := Lib.hid (HST.out true ⟨fun _ => .inr (HR.out.1 e2), fun _ => rfl⟩)
                      rw [e1] at hcg
                      rw [e2] at hci
                      clear e1 e2
                      go_wp2
                      exact ⟨⟨x + 1, l3.set x true, by omega, by go_num, HS2.out⟩, by simp [intOf]; omega⟩
                    | false =>
                      have HS2 := Lib.hid (HST.out false ⟨fun h => (by cases h), fun h => h.elim (fun h => by rw [HQ.out.2 h] at e1; cases e1) (fun h => by rw [HR.out.2 h] at e2; cases e2)⟩)
                      rw [e1] at hcg
                      rw [e2] at hci
                      clear e1 e2
                      go_wp2
                      exact ⟨⟨x + 1, l3.set x false, by omega, by go_num, HS2.out⟩, by simp [intOf]; omega⟩
                · obtain rfl : x = N := by omega
                  go_wp2
                  exact ⟨⟨j + 1, l3, by omega, by go_num, hoG, Lib.hid (H7.out.cong (fun v => by
                        rw [welJ_rest HBN.out]
                        exact or_congr Iff.rfl ⟨fun h => ⟨by have := set_mem HPP.out h.mem.1; omega, h⟩, fun h => h.2⟩)), bXv, hkv, hwv⟩, by simp [intOf]; omega⟩
      · obtain rfl : j = qs.length := by omega
        have HF := Lib.hid (fun v => wel_all (n := n) (ps := ps) (v := v) HQS.out.1)
        go_wp2
        go_ret
        exact ⟨_, _, rfl, ho.more hB, HI.out.cong (fun v => (HF.out v).symm), hbr.mono hB⟩
end Go.Proofs.YtjjaolndencplaaGreat
namespace Go.Proofs.YtjjaolndencplaaGreat
open Go.RowKit

theorem RI.none0 {w : World} (A : Option Addr) : RI w A 0 0 [] := ⟨rfl, ⟨Nat.le_refl _, by omega⟩, fun i hi => absurd hi (by omega)⟩
theorem ins_all {N x : Nat} : gb (insM N []) x = true ↔ x < N := by
  refine ⟨fun h => lt_ins (insM_len N _) h, fun h => ?_⟩
  rw [insM_at h]
  simp [hasL]
set_option maxRecDepth 100000 in
set_option maxHeartbeats 1600000 in
theorem specWellFrom (A0 A1 P : Option Addr) (n0 c0 n1 c1 m d : Nat) (z : List Int × List (List Int)) (ps : List PairD) (w : World) (B : Nat) (hB : B ≤ w.heap.size) (hr : RI w A0 n0 c0 z.1) (hx : RII w A1 n1 c1 z.2) (hp : RPS w P m d ps) :
    Calls Tryz.prog 16 #[.agg #[.slice A0 n0 c0, .slice A1 n1 c1], .slice P m d] w fun e w' => ∃ v, e = .returned v ∧ OI 2 w' B v (welR z ps) ∧ Below B w w' := by
  have HL := Lib.hid hr.len
  have hba : Below w.heap.size w (w.alloc (.cells #[.slice A0 n0 c0, .slice A1 n1 c1] 30)) := below_alloc (Nat.le_refl _) (Below.refl _ _)
  have bx := Box.new w 30 #[.slice A0 n0 c0, .slice A1 n1 c1]
  have q0 := bx.d0; have q1 := bx.d1
  have p1 := hp.cap; have p2 := hp.top; have r1 := hr.cap; have r2 := hr.top
  have hall := specArenaOk A0 A1 n0 c0 n1 c1 z.1 z.2 _ _ (Nat.le_refl _) (hr.keep (keeps_below hba)) (hx.keep (keeps_below hba))
  cases h1 : arB z.1 z.2 with
  | false =>
    have E : Hid (welR z ps = []) := Lib.hid (by unfold welR; rw [h1]; rfl)
    rw [h1] at hall
    clear h1
    go_enter Tryz.func16, Tryz.ntmps16
    go_wp2_with fail
    refine hall.mono ?_; rintro e w1 ⟨rfl, hb1⟩
    have hw1 := below_then hb1 hba.size hba
    have hs1 := hw1.size
    clear hall q0 q1
    go_wp2
    go_ret
    exact ⟨_, rfl, by rw [E.out]; exact OI.empty (Nat.le_trans hB hs1), below_alloc hB (hw1.mono hB)⟩
  | true =>
    obtain ⟨⟨k1, k2, k3⟩, hE⟩ := arE h1 hr.len
    obtain rfl : n1 = n0 := by rw [← hx.len]; exact k3
    have H1 := Lib.hid h1
    rw [h1] at hall
    have I1 := Lib.hid (show inR (n1 : Int) 0 256 = true from decide_eq_true ⟨by omega, by omega⟩)
    clear h1
    cases h2 : pairsB ps (n1 : Int) with
    | false =>
      have E : Hid (welR z ps = []) := Lib.hid (by unfold welR; rw [HL.out, h2, Bool.and_false]; rfl)
      have H2 := Lib.hid h2
      clear h2
      go_enter Tryz.func16, Tryz.ntmps16
      go_wp2_with fail
      refine hall.mono ?_; rintro e w1 ⟨rfl, hb1⟩
      have hw1 := below_then hb1 hba.size hba
      replace bx := bx.below hb1 bx.lt
      clear hall q0 q1
      have q0 := bx.d0; have q1 := bx.d1
      go_wp2_with fail
      refine (specPairsOk _ _ _ ps _ _ (hp.keep (keeps_below hw1))).mono ?_; rintro e w2 ⟨rfl, qq2⟩
      rw [I1.out, H2.out]
      have hb2 := below_qt qq2 (Below.refl w1.heap.size w1)
      have hw2 := below_then hb2 hw1.size hw1
      have hs2 := hw2.size
      go_wp2
      go_ret
      exact ⟨_, rfl, by rw [E.out]; exact OI.empty (Nat.le_trans hB hs2), below_alloc hB (hw2.mono hB)⟩
    | true =>
      have HPP : Hid (ps.length ≤ 4 ∧ ∀ k, k < ps.length → setB (gp ps k).1 (n1 : Int) = true) := Lib.hid (by
        have h3 := h2
        unfold pairsB at h3
        rw [Bool.and_eq_true, List.all_eq_true] at h3
        refine ⟨of_decide_eq_true h3.1, fun k hk => ?_⟩
        have h4 := h3.2 _ (gp_mem hk)
        rw [Bool.and_eq_true] at h4
        exact h4.1)
      have hm : m ≤ 4 := by
        have h3 := h2
        unfold pairsB at h3
        rw [Bool.and_eq_true] at h3
        have h4 := of_decide_eq_true h3.1
        rw [hp.len] at h4; exact h4
      have E : Hid (welR z ps = welL z.2 n1 ps) := Lib.hid (by unfold welR; rw [H1.out, HL.out, h2]; rfl)
      have H2 := Lib.hid h2
      have HE := Lib.hid hE
      have HPL := Lib.hid hp.len
      clear h2 hE
      go_enter Tryz.func16, Tryz.ntmps16
      go_wp2_with fail
      refine hall.mono ?_; rintro e w1 ⟨rfl, hb1⟩
      have hw1 := below_then hb1 hba.size hba
      replace bx := bx.below hb1 bx.lt
      clear hall q0 q1
      have q0 := bx.d0; have q1 := bx.d1
      go_wp2_with fail
      refine (specPairsOk _ _ _ ps _ _ (hp.keep (keeps_below hw1))).mono ?_; rintro e w2 ⟨rfl, qq2⟩
      rw [I1.out, H2.out]
      have hb2 := below_qt qq2 (Below.refl w1.heap.size w1)
      have hw2 := below_then hb2 hw1.size hw1
      replace bx := bx.below hb2 bx.lt
      clear q0 q1 hb1 hw1 hb2 qq2
      have q0 := bx.d0; have q1 := bx.d1
      have hs2 := hw2.size
      go_wp2_with fail
      go_region_held3 (fun w' => w'.cell? ⟨w.heap.size, 0, none⟩ = some (.slice A0 n1 c0) ∧ w'.cell? ⟨w.heap.size, 1, none⟩ = some (.slice A1 n1 c1))
        (refine ⟨?_, ?_⟩ <;> repeat (first | with_reducible assumption | with_reducible refine keepD ?_ | with_reducible refine keepA ?_))
        (first
          | (go_at_call 43
             refine (specInside _ n1 0 0 [] _ _ (Nat.le_refl _) (RI.none0 _) k2).mono ?_
             rintro e w3 ⟨g3, rfl, ho3, hb3⟩
             have hbA : Below w2.heap.size w2 (w2.alloc (.cells #[] 2)) := below_alloc (Nat.le_refl _) (Below.refl _ _)
             replace hb3 := below_then (below_undrew hb3) hbA.size hbA
             have hw3 := below_then hb3 hw2.size hw2
             have bx3 := bx.below hb3 bx.lt
             have q30 := bx3.d0
             have q31 := bx3.d1)
          | (go_at_call 42
             refine (specGoing n1 z.2 ps k2 HE.out HPP.out (n1 + 1) A0 A1 P (some ⟨g3, 0, none⟩) c0 c1 m d n1 (insM n1 []) _ _ (Nat.le_refl _) (by omega) (hx.keep (keeps_below hw3)) (hp.keep (keeps_below hw3)) ho3.reads).mono ?_
             rintro e w4 ⟨g4, out4, rfl, ho4, hq4, hb4⟩
             have hw4 := below_then hb4 hw3.size hw3
             have bx4 := bx3.below hb4 bx3.lt
             have q40 := bx4.d0
             have q41 := bx4.d1)
          | (go_at_call 40
             refine (specBefore A0 A1 (some ⟨g4, 0, none⟩) n1 c0 c1 n1 n1 z.2 out4 _ _ (Nat.le_refl _) (hx.keep (keeps_below hw4)) ho4.reads k1 k2 HE.out).mono ?_
             rintro e w5 ⟨g5, c5, out5, rfl, ho5, hq5, hb5⟩
             have hw5 := below_then hb5 hw4.size hw4
             have bx5 := bx4.below hb5 bx4.lt
             have q50 := bx5.d0
             have q51 := bx5.d1)
          | (go_at_call 39
             refine (l16List (some ⟨g5, 0, none⟩) n1 c5 out5 _ _ (Nat.le_refl _) ho5.reads (by omega)).mono ?_
             rintro e w6 ⟨v6, rfl, ho6, hb6⟩
             have hw6 := below_then hb6 hw5.size hw5
             have bx6 := bx5.below hb6 bx5.lt
             have q60 := bx6.d0
             have q61 := bx6.d1))
      have e6 : listM out5 = welL z.2 n1 ps := by
        unfold welL
        refine list_brk hq5.1 (fun v _ => (hq5.2 v).trans (comes_cong (fun u => (hq4.2 u).trans (WellG.cong fun x => ins_all)) v))
      go_wp2
      go_ret
      exact ⟨_, rfl, by rw [E.out, ← e6]; exact ho6.more (Nat.le_trans hB hw5.size), hw6.mono hB⟩
end Go.Proofs.YtjjaolndencplaaGreat
namespace Go.Proofs.YtjjaolndencplaaGreat
open Go.RowKit

theorem welR_len (z : ArD) (ps : List PairD) : (welR z ps).length ≤ 256 := by
  unfold welR
  split
  · rename_i h
    rw [Bool.and_eq_true] at h
    have h1 := (arB_iff.1 h.1).1
    refine Nat.le_trans (pick_len _ _ _) h1.2.1
  · simp
theorem specWellFromV (s0 s1 : Value) (a : ArD) (A : Option Addr) (n c : Nat) (ps : List PairD) (w : World) (B : Nat) (hB : B ≤ w.heap.size) (ha : RAv w s0 s1 a.1 a.2) (hp : RPS w A n c ps) :
    Calls Tryz.prog 16 #[.agg #[s0, s1], .slice A n c] w fun e w' => ∃ v, e = .returned v ∧ OI 2 w' B v (welR a ps) ∧ Below B w w' := by
  obtain ⟨A0, n0, c0, A1, n1, c1, rfl, rfl⟩ := ha.form
  exact specWellFrom A0 A1 A n0 c0 n1 c1 n c a ps w B hB ha.ri ha.rii hp
theorem implWellFromV (s0 s1 : Value) (a : ArD) (A : Option Addr) (n c : Nat) (ps : List PairD) (w : World) (B : Nat) (hB : B ≤ w.heap.size) (ha : RAv w s0 s1 a.1 a.2) (hp : RPS w A n c ps) :
    Calls Tryz.prog 10 #[.agg #[s0, s1], .slice A n c] w fun e w' => ∃ v, e = .returned v ∧ OI 2 w' B v (welR a ps) ∧ Below B w w' := by
  obtain ⟨A0, n0, c0, A1, n1, c1, rfl, rfl⟩ := ha.form
  exact implWellFrom A0 A1 A n0 c0 n1 c1 n c a ps w B hB ha.ri ha.rii hp
end Go.Proofs.YtjjaolndencplaaGreat
namespace Go.Proofs.YtjjaolndencplaaGreat
open Go.RowKit

theorem nel : 2 ≠ 38 := by decide
theorem nel2 : 27 ≠ 38 := by decide
theorem nel3 : 50 ≠ 38 := by decide
/-- the dice, the arena in its box, the pairs, the two answers -/
structure LS (w1 w : World) (b lo ba : Nat) (A0 A1 : Option Addr) (c0 c1 : Nat) (z : ArD) (AP : Option Addr) (cP : Nat) (ps : List PairD) (AB : Option Addr) (cB : Nat) (bs : List Int) (AW : Option Addr) (cW : Nat) (ws : List Int) : Prop where
  hd : DiceAt w1 w b
  low : b < lo ∧ b < ba
  bA : Box w ba 30 #[.slice A0 z.1.length c0, .slice A1 z.2.length c1]
  ho4 : OArn w lo (.slice A0 z.1.length c0) (.slice A1 z.2.length c1) z
  hoP : OPS w lo (.slice AP ps.length cP) ps
  oB : OI 2 w lo (.slice AB bs.length cB) bs
  oW : OI 2 w lo (.slice AW ws.length cW) ws
section
variable {w1 w w' : World} {b lo ba cP cB cW c0 c1 : Nat} {A0 A1 AP AB AW : Option Addr} {z : ArD} {ps : List PairD} {bs ws : List Int}
theorem LS.on (h : LS w1 w b lo ba A0 A1 c0 c1 z AP cP ps AB cB bs AW cW ws) (k : Below w.heap.size w w') : LS w1 w' b lo ba A0 A1 c0 c1 z AP cP ps AB cB bs AW cW ws :=
  ⟨h.hd.on k, h.low, h.bA.below k h.bA.lt, h.ho4.below k, h.hoP.below k, h.oB.below k, h.oW.below k⟩
theorem LS.chg (h : LS w1 w b lo ba A0 A1 c0 c1 z AP cP ps AB cB bs AW cW ws) (hc : Chg (fun y => y = b) w w') (hd : DiceAt w1 w' b) : LS w1 w' b lo ba A0 A1 c0 c1 z AP cP ps AB cB bs AW cW ws := by
  have hl := h.low
  exact ⟨hd, hl, (hc.block _ h.bA.lt (fun e => by have h3 : ba = b := e; omega)).trans h.bA, h.ho4.chg hc (fun y hy => by have h3 : y = b := hy; omega), h.hoP.chg hc (fun y hy => by have h3 : y = b := hy; omega),
    h.oB.chg hc (fun y hy e => by have h3 : y = b := e; have := (h.oB.lt y hy).1; omega), h.oW.chg hc (fun y hy e => by have h3 : y = b := e; have := (h.oW.lt y hy).1; omega)⟩
theorem LS.box {bl : Nat} {xs : Array Value} (h : LS w1 w b lo ba A0 A1 c0 c1 z AP cP ps AB cB bs AW cW ws) (bz : Box w bl 38 xs) (hne : ba ≠ bl) (hbb : b < bl) (hc : Chg (fun x => x = bl) w w') : LS w1 w' b lo ba A0 A1 c0 c1 z AP cP ps AB cB bs AW cW ws :=
  ⟨h.hd.chg hc (fun x hx => by have h3 : x = bl := hx; omega), h.low, (hc.block _ h.bA.lt (fun e => hne e)).trans h.bA, h.ho4.chgBox bz nel nel2 hc, h.hoP.chgBox bz nel nel3 hc, h.oB.chgBox bz nel hc, h.oW.chgBox bz nel hc⟩
end
theorem brk_has {z : ArD} {ps : List PairD} {v : Nat} (h1 : arB z.1 z.2 = true) (h2 : pairsB ps (z.1.length : Int) = true) (hv : v < z.1.length) : hasL (brkR z ps) (v : Int) = true ↔ Comes z.2 (BrkG z.2 z.1.length ps ps.length) v := by
  unfold brkR brkL
  rw [h1, h2, hasL_iff]
  simp only [Bool.and_self, if_true]
  rw [mem_pick]
  constructor
  · rintro ⟨i, hi, hc, e⟩
    obtain rfl : i = v := by omega
    exact clB_iff.1 hc
  · intro h
    exact ⟨v, hv, clB_iff.2 h, rfl⟩
theorem wel_has {z : ArD} {ps : List PairD} {v : Nat} (h1 : arB z.1 z.2 = true) (h2 : pairsB ps (z.1.length : Int) = true) (hv : v < z.1.length) : hasL (welR z ps) (v : Int) = true ↔ Comes z.2 (WellG z.2 ps (fun u => u < z.1.length)) v := by
  unfold welR welL
  rw [h1, h2, hasL_iff]
  simp only [Bool.and_self, if_true]
  rw [mem_pick]
  constructor
  · rintro ⟨i, hi, hc, e⟩
    obtain rfl : i = v := by omega
    exact clB_iff.1 hc
  · intro h
    exact ⟨v, hv, clB_iff.2 h, rfl⟩
/-- every vertex is of at least one of both kinds -/
theorem one_has {z : ArD} {ps : List PairD} {v : Nat} (h1 : arB z.1 z.2 = true) (h2 : pairsB ps (z.1.length : Int) = true) (hv : v < z.1.length) : hasL (brkR z ps) (v : Int) = true ∨ hasL (welR z ps) (v : Int) = true := by
  rw [brk_has h1 h2 hv, wel_has h1 h2 hv]
  refine one_of (fun x hx => ?_) hv
  have hf := fineAr_of h1
  obtain ⟨_, h3, h4⟩ := hf.2.2.2 x hx
  obtain ⟨m, hm, hmn⟩ := set_nat h4 (show 0 < (gl z.2 x).length by omega)
  exact ⟨m, hmn, by rw [← hm]; exact gi_mem (by omega)⟩
theorem play_has {z : ArD} {ps : List PairD} {pe pd st lp : List Int} {v : Nat} (h1 : arB z.1 z.2 = true) (h2 : pairsB ps (z.1.length : Int) = true) (hv : v < z.1.length) (he : fullP z.1 z.2 0 pe) (hd : fullP z.1 z.2 1 pd) (hp : isPlay (nxN z.1 pe pd) v st lp) :
    ((brokenL ps lp).length = 0 → hasL (welR z ps) (v : Int) = true) ∧ (¬ (brokenL ps lp).length = 0 → hasL (brkR z ps) (v : Int) = true) := by
  have hs : ∀ x, x < z.1.length → nxN z.1 pe pd x < z.1.length ∧ (nxN z.1 pe pd x : Int) ∈ gl z.2 x := fun x hx => by
    have h := full_step (fineAr_of h1) he hd x hx
    exact ⟨h.1, hasL_iff.1 h.2⟩
  refine ⟨fun hb => ?_, fun hb => ?_⟩
  · rw [wel_has h1 h2 hv]
    exact play_well hs hv hp (List.length_eq_zero_iff.1 hb)
  · rw [brk_has h1 h2 hv]
    exact play_breaks hs hv hp (fun e => hb (by rw [e]; rfl))
end Go.Proofs.YtjjaolndencplaaGreat
