/- Texts that the proof reaches: WinB, WinC, OpQ, Often, Cpy, Open, OpenY, OftPlan2, Same, CopyP, More, Joined. -/
import Derived.Test.YtblmcmccdeelgaaBn7
import Derived.ProofKit
import Derived.OpenShut
import Derived.ShutString
import Derived.ChangeOld
import Derived.Lib.SmallJoins
import Derived.Deep.Slices
import Derived.Deep.Fields
import Derived.Deep.RegionHeld3
import Derived.StillTailTactics
namespace Go.Proofs.Ytblmcmccdeelgaa
open Go.RowKit

set_option maxRecDepth 100000 in
theorem l4Set (s0 s1 s2 : Value) (g : ParD) (C : Option Addr) (m d : Nat) (R : List Int) (w : World) (B : Nat) (hB : B ≤ w.heap.size) (ha : RPv w s0 s1 s2 g) (hr : RI w C m d R) (hs : setB R (g.2.2.length : Int) = true) :
    Calls Try.prog 67 #[.agg #[s0, s1, s2], .slice C m d] w fun e w' => e = .returned (.bool true) ∧ Below B w w' := by
  obtain ⟨A0, n0, c0, A1, n1, c1, A2, n2, c2, rfl, rfl, rfl⟩ := ha.form
  have b5 := ha.rp.cap; have b6 := ha.rp.top
  have HP := Lib.hid ha.rp.len
  have bx := Box.new w 34 #[.slice A0 n0 c0, .slice A1 n1 c1, .slice A2 n2 c2]
  have hwL : Below w.heap.size w (w.alloc (.cells #[.slice A0 n0 c0, .slice A1 n1 c1, .slice A2 n2 c2] 34)) := below_alloc (Nat.le_refl _) (Below.refl _ _)
  have q2 := bx.c2
  have HS : Hid (setB R (n2 : Int) = true) := Lib.hid (by rw [← HP.out]; exact hs)
  clear hs
  go_enter Try.func67, Try.ntmps67
  go_wp2_with fail
  refine (l1Set _ _ _ R _ _ (hr.keep (keeps_below hwL)) (by omega) (by omega)).mono ?_; rintro e w1 ⟨rfl, q1⟩
  rw [HS.out]
  go_wp2
  go_ret
  exact ⟨rfl, (below_qt q1 hwL).mono hB⟩
/-- what the checker asks of its arguments -/
structure RightW (g : ParD) (who : Int) (R p : List Int) : Prop where
  par : parB g = true
  who01 : 0 ≤ who ∧ who ≤ 1
  plan : fineP g.1 g.2.1 who p
  set : setB R (g.1.length : Int) = true
set_option maxRecDepth 100000 in
set_option maxHeartbeats 1600000 in
theorem l6Right (s0 s1 s2 : Value) (g : ParD) (who : Int) (C D : Option Addr) (m d k c : Nat) (R p : List Int) (w : World) (B : Nat) (hB : B ≤ w.heap.size) (ha : RPv w s0 s1 s2 g) (hr : RI w C m d R) (hp : RI w D k c p) (H : RightW g who R p) :
    Calls Try.prog 52 #[.agg #[s0, s1, s2], .int .i64 who, .slice C m d, .slice D k c] w fun e w' => e = .returned (.bool true) ∧ Below B w w' := by
  have ha0 := ha
  obtain ⟨A0, n0, c0, A1, n1, c1, A2, n2, c2, rfl, rfl, rfl⟩ := ha.form
  have bx := Box.new w 34 #[.slice A0 n0 c0, .slice A1 n1 c1, .slice A2 n2 c2]
  have hwL : Below w.heap.size w (w.alloc (.cells #[.slice A0 n0 c0, .slice A1 n1 c1, .slice A2 n2 c2] 34)) := below_alloc (Nat.le_refl _) (Below.refl _ _)
  have q0 := bx.c0; have q1 := bx.c1; have q2 := bx.c2
  have HH := Lib.hid H
  have hf := finePar_of H.par
  have HF := Lib.hid hf
  have hs2 : Hid (setB R (g.2.2.length : Int) = true) := Lib.hid (by rw [hf.2.1]; exact H.set)
  clear H hf
  go_enter Try.func52, Try.ntmps52
  go_wp2_with fail
  refine (specParityOk _ _ _ _ _ _ (Nat.le_refl _) (ha.keep (keeps_below hwL))).mono ?_; rintro e w1 ⟨rfl, hb1⟩
  rw [HH.out.par]
  have bx1 := bx.below hb1 bx.lt
  have hw1 := below_then hb1 hwL.size hwL
  have k0 := bx1.c0; have k1 := bx1.c1; have k2 := bx1.c2
  clear q0 q1 q2
  go_wp2_with fail
  refine (planOk _ _ _ _ _ _ _ _ _ g.1 g.2.1 _ p _ _ (Nat.le_refl _) (ha.ri.keep (keeps_below hw1)) (ha.rii.keep (keeps_below hw1)) (hp.keep (keeps_below hw1)) HF.out.1 (parB_parts HH.out.par) HH.out.who01 HH.out.plan).mono ?_; rintro e w2 ⟨rfl, hb2⟩
  have bx2 := bx1.below hb2 bx1.lt
  have hw2 := below_then hb2 hw1.size hw1
  have j0 := bx2.c0; have j1 := bx2.c1; have j2 := bx2.c2
  clear k0 k1 k2
  go_wp2_with fail
  refine (l4Set _ _ _ g _ _ _ R _ _ (Nat.le_refl _) (ha.keep (keeps_below hw2)) (hr.keep (keeps_below hw2)) hs2.out).mono ?_; rintro e w3 ⟨rfl, hb3⟩
  go_wp2
  go_ret
  exact ⟨rfl, (below_then hb3 hw2.size hw2).mono hB⟩
/-- no bad loop through a vertex of the region -/
def NoBad (g : ParD) (who : Int) (R p : List Int) : Prop := ∀ v : Nat, (v : Int) ∈ R → gi g.2.2 v % 2 ≠ who → ∃ P : Nat → Prop, ¬ P v ∧
  (∀ u : Nat, (u : Int) ∈ gl (edL g.2.1 p g.1.length) v → ((u : Int) ∈ R ∧ gi g.2.2 u ≤ gi g.2.2 v) → P u) ∧ ∀ x u : Nat, P x → (u : Int) ∈ gl (edL g.2.1 p g.1.length) x → ((u : Int) ∈ R ∧ gi g.2.2 u ≤ gi g.2.2 v) → P u
theorem gb_put {ls : List Bool} {j u : Nat} {b : Bool} (h : gb (ls.set j b) u = true) : (u = j ∧ b = true) ∨ gb ls u = true := by
  unfold gb at *
  by_cases e : j = u
  · subst e
    by_cases hl : j < ls.length
    · rw [List.getD_eq_getElem?_getD, List.getElem?_set_self hl] at h
      exact .inl ⟨rfl, by simpa using h⟩
    · rw [List.set_eq_of_length_le (by omega)] at h
      exact .inr h
  · rw [List.getD_eq_getElem?_getD, List.getElem?_set_ne e, ← List.getD_eq_getElem?_getD] at h
    exact .inr h
theorem gb_noneW {n u : Nat} (h : gb (List.replicate n false) u = true) : False := by
  unfold gb at h
  rw [List.getD_eq_getElem?_getD, List.getElem?_replicate] at h
  split at h <;> simp at h
set_option maxRecDepth 100000 in
set_option maxHeartbeats 3200000 in
theorem badLoops (s0 s1 s2 : Value) (g : ParD) (who : Int) (C D : Option Addr) (m d k0 c : Nat) (R p : List Int) (w : World) (B : Nat) (hB : B ≤ w.heap.size) (ha : RPv w s0 s1 s2 g) (hr : RI w C m d R) (hp : RI w D k0 c p) (H : RightW g who R p) (HNB : NoBad g who R p) :
    Calls Try.prog 53 #[.agg #[s0, s1, s2], .int .i64 who, .slice C m d, .slice D k0 c] w fun e w' => ∃ v, e = .returned v ∧ OI 2 w' B v [] ∧ Below B w w' := by
  obtain ⟨A0, n0, c0, A1, n1, c1, A2, n2, c2, rfl, rfl, rfl⟩ := ha.form
  have b1 := ha.ri.cap; have b2 := ha.ri.top; have b3 := ha.rii.cap; have b4 := ha.rii.top; have b5 := ha.rp.cap; have b6 := ha.rp.top; have b7 := hr.cap; have b8 := hr.top; have b9 := hp.cap; have b10 := hp.top
  have bx := Box.new w 34 #[.slice A0 n0 c0, .slice A1 n1 c1, .slice A2 n2 c2]
  have hwL : Below w.heap.size w (w.alloc (.cells #[.slice A0 n0 c0, .slice A1 n1 c1, .slice A2 n2 c2] 34)) := below_alloc (Nat.le_refl _) (Below.refl _ _)
  have HH := Lib.hid H
  have hf := finePar_of H.par
  have HL := Lib.hid ha.ri.len; have HP2 := Lib.hid ha.rp.len; have HR := Lib.hid hr.len; have HX := Lib.hid ha.rii.len
  have hn2 : n2 = n0 := by have := hf.2.1; rw [HP2.out, HL.out] at this; exact this
  have hn1 : n1 = n0 := by have := hf.1.2.2.1; rw [HX.out, HL.out] at this; exact this
  have hn0 : n0 ≤ 256 := by have := hf.1.2.1; rw [HL.out] at this; exact this
  have hk0 : k0 = n0 := by have := H.plan.1; rw [hp.len, HL.out] at this; exact this
  subst hn2; subst hn1; subst hk0
  have HF := Lib.hid hf
  have HSet : Hid (setB R (k0 : Int) = true) := Lib.hid (by rw [← HL.out]; exact H.set)
  have HED : Hid (∀ x, x < k0 → (gl (edL g.2.1 p k0) x).length ≤ 256 ∧ ∀ j, j < (gl (edL g.2.1 p k0) x).length → ∃ m : Nat, gi (gl (edL g.2.1 p k0) x) j = (m : Int) ∧ m < k0) := Lib.hid (fun x hx => by
    have hx' : x < g.1.length := by rw [HL.out]; exact hx
    rw [edL_at hx]
    split
    · rename_i h0
      refine ⟨by simp, fun j hj => ?_⟩
      obtain rfl : j = 0 := by simpa using hj
      rcases H.plan.2 x hx' with e | e
      · omega
      · obtain ⟨i, hi, he⟩ := has_row e.2
        have := row_nat hf.1 hx' hi
        rw [he] at this
        exact ⟨(gi p x).toNat, by show gi p x = _; omega, by rw [← HL.out]; exact this.1⟩
    · refine ⟨by have := (hf.1.2.2.2 x hx').2.1.2; omega, fun j hj => ?_⟩
      have := row_nat hf.1 hx' hj
      exact ⟨(gi (gl g.2.1 x) j).toNat, by omega, by rw [← HL.out]; exact this.1⟩)
  have HNBh : Hid (∀ v : Nat, (v : Int) ∈ R → gi g.2.2 v % 2 ≠ who → ∃ P : Nat → Prop, ¬ P v ∧ (∀ u : Nat, (u : Int) ∈ gl (edL g.2.1 p k0) v → ((u : Int) ∈ R ∧ gi g.2.2 u ≤ gi g.2.2 v) → P u) ∧ ∀ x u : Nat, P x → (u : Int) ∈ gl (edL g.2.1 p k0) x → ((u : Int) ∈ R ∧ gi g.2.2 u ≤ gi g.2.2 v) → P u) := Lib.hid (by
    intro v hv hne
    have := HNB v hv hne
    rw [HL.out] at this
    exact this)
  clear hf H HNB
  have hem : OI 2 ((w.alloc (.cells #[.slice A0 k0 c0, .slice A1 k0 c1, .slice A2 k0 c2] 34)).alloc (.cells #[] 2)) w.heap.size (.slice (some ⟨w.heap.size + 1, 0, none⟩) 0 0) [] := by
    have h := OI.empty (E := 2) (w := w.alloc (.cells #[.slice A0 k0 c0, .slice A1 k0 c1, .slice A2 k0 c2] 34)) (B := w.heap.size) (by simp)
    simpa using h
  have bxe := bx.alloc (.cells #[] 2)
  have hwE : Below w.heap.size w ((w.alloc (.cells #[.slice A0 k0 c0, .slice A1 k0 c1, .slice A2 k0 c2] 34)).alloc (.cells #[] 2)) := below_alloc (Nat.le_refl _) hwL
  have q0 := bxe.c0; have q1 := bxe.c1; have q2 := bxe.c2
  clear bx hwL
  go_enter Try.func53, Try.ntmps53
  go_wp2_with fail
  refine (l6Right _ _ _ g _ _ _ _ _ _ _ R p _ _ (Nat.le_refl _) (ha.keep (keeps_below hwE)) (hr.keep (keeps_below hwE)) (hp.keep (keeps_below hwE)) HH.out).mono ?_; rintro e w1 ⟨rfl, hb1⟩
  have bx1 := bxe.below hb1 bxe.lt
  have hw1 := below_then hb1 hwE.size hwE
  have ho1 := hem.below hb1
  have j0 := bx1.c0; have j1 := bx1.c1; have j2 := bx1.c2
  clear q0 q1 q2 hb1 bxe hem
  go_wp2_with fail
  refine (specEdges _ _ _ _ _ _ _ _ _ g.2.1 p _ _ (Nat.le_refl _) (ha.rii.keep (keeps_below hw1)) (hp.keep (keeps_below hw1)) (Nat.le_refl _) hn0).mono ?_; rintro e w2 ⟨Ae, ce, rfl, hE2, hb2⟩
  have bx2 := bx1.below hb2 bx1.lt
  have hw2 := below_then hb2 hw1.size hw1
  have ho2 := ho1.below hb2
  clear j0 j1 j2 bx1 ho1 hw1 hb2
  go_wp2
  go_loopw [9, 11] (fun t i wr => ∃ k : Nat, k ≤ m ∧ i = .int .i64 (k : Int) ∧ t = .slice (some ⟨w.heap.size + 1, 0, none⟩) 0 0 ∧ Below w2.heap.size w2 wr) (fun _ i _ => m - (intOf i).toNat)
  case atStart => exact ⟨0, Nat.zero_le _, rfl, rfl, Below.refl _ _⟩
  case round =>
    obtain ⟨k, hk, rfl, rfl, hb2r⟩ := hrel
    have hbr : Below w.heap.size w wr := below_then hb2r hw2.size hw2
    have bX := bx2.below hb2r bx2.lt
    have q0 := bX.c0; have q1 := bX.c1; have q2 := bX.c2
    by_cases hlt : k < m
    · obtain ⟨v, hv, hvn⟩ := set_nat HSet.out (show k < R.length by rw [HR.out]; exact hlt)
      have HV : Hid ((v : Int) ∈ R) := Lib.hid (by rw [← hv]; exact gi_mem (by rw [HR.out]; exact hlt))
      obtain ⟨bC, oC, hC, hcC0⟩ := hr.at_ hlt
      subst hC
      rw [hv] at hcC0
      obtain ⟨bP, oP, hA2, hcP0⟩ := ha.rp.at_ hvn
      subst hA2
      have hcC := keeps_below hbr _ _ hcC0
      have hcP := keeps_below hbr _ _ hcP0
      obtain ⟨p0, p1⟩ := HF.out.2.2 v (by rw [HP2.out]; exact hvn)
      clear hv
      by_cases hpar : gi g.2.2 v % 2 = who
      · have e4 : (gi g.2.2 v % 2 == who) = true := by simp [hpar]
        clear hpar
        go_wp2
        go_roundw
        case rel => exact ⟨k + 1, by omega, by go_num, rfl, hb2r⟩
        case measure => simp [intOf]; omega
      · have e4 : (gi g.2.2 v % 2 == who) = false := by simp [hpar]
        have HNv := Lib.hid (HNBh.out v HV.out hpar)
        clear hpar
        have hsz : wr.heap.size = wr.heap.size := rfl
        have HZ := Lib.hid hsz; clear hsz
        have hba := Below.refl wr.heap.size wr
        go_wp2_with (refine wpList_makeB rfl (.tmp 47) rfl _ k0 rfl (by omega) ?_; intro w5 hown hb5; rw [HZ.out] at hown ⊢; replace hb5 := below_then hb5 hba.size hba; replace hown := hown.more (lo' := wr.heap.size) (by omega); clear hba)
        have hs5 := hb5.size
        have hb25 : Below w2.heap.size w2 w5 := hb2r.trans (hb5.mono hb2r.size)
        have hw5 : Below w.heap.size w w5 := below_then hb25 hw2.size hw2
        obtain ⟨lb, hlb⟩ : ∃ lb, lb = wr.heap.size := ⟨_, rfl⟩
        rw [← hlb] at hown ⊢
        have hlb2 : w2.heap.size ≤ lb := by rw [hlb]; exact hb2r.size
        clear hcC hcP q0 q1 q2 hlb
        go_loopw [14] (fun i wi => ∃ (j : Nat) (ls : List Bool), j ≤ m ∧ i = .int .i64 (j : Int) ∧ OB 4 wi lb (.slice (some ⟨lb, 0, none⟩) k0 k0) ls ∧ Hid (ls.length = k0 ∧ ∀ u, gb ls u = true → ((u : Int) ∈ R ∧ gi g.2.2 u ≤ gi g.2.2 v)) ∧ Below w2.heap.size w2 wi) (fun i _ => m - (intOf i).toNat)
        case atStart => exact ⟨0, _, Nat.zero_le _, rfl, hown, Lib.hid ⟨by simp, fun u hu => (gb_noneW hu).elim⟩, hb25⟩
        case round =>
          clear hown hb25 hw5 hs5
          obtain ⟨j, ls, hj, rfl, hol, HI, hb2i⟩ := hrel
          have hbi : Below w.heap.size w wr := below_then hb2i hw2.size hw2
          have bX := bx2.below hb2i bx2.lt
          have q0 := bX.c0; have q1 := bX.c1; have q2 := bX.c2
          have hcP := keeps_below hbi _ _ hcP0
          have hcC := keeps_below hbi _ _ hcC0
          by_cases hjm : j < m
          · obtain ⟨x, hx, hxn⟩ := set_nat HSet.out (show j < R.length by rw [HR.out]; exact hjm)
            have HXR : Hid ((x : Int) ∈ R) := Lib.hid (by rw [← hx]; exact gi_mem (by rw [HR.out]; exact hjm))
            obtain ⟨bD, oD, hD, hcD0⟩ := hr.at_ hjm
            injection hD with hD
            injection hD with hD1 hD2
            subst hD1; subst hD2
            rw [hx] at hcD0
            have hcD := keeps_below hbi _ _ hcD0
            obtain ⟨bQ, oQ, hQ, hcQ0⟩ := ha.rp.at_ hxn
            injection hQ with hQ
            injection hQ with hQ1 hQ2
            subst hQ1; subst hQ2
            have hcQ := keeps_below hbi _ _ hcQ0
            have hlsl := HI.out.1
            have hcL := hol.at_ (i := x) (by rw [hlsl]; exact hxn)
            have hfL := hol.hot (i := x) (by rw [hlsl])
            clear hx hlsl
            go_wp2
            go_region
            go_wp2
            go_roundw
            case rel =>
              refine ⟨j + 1, _, by omega, by go_num, hol.set_ (by rw [HI.out.1]) _, Lib.hid ⟨by rw [List.length_set]; exact HI.out.1, fun u hu => ?_⟩, ?_⟩
              · rcases gb_put hu with ⟨e, hd⟩ | hu'
                · rw [e]
                  exact ⟨HXR.out, by simpa using hd⟩
                · exact HI.out.2 u hu'
              · repeat (first | with_reducible exact hb2i | with_reducible refine below_drewN ?_ _ | with_reducible refine Below.drew ?_ | refine below_set (p := ⟨lb, x, none⟩) hlb2 ?_)
            case measure => simp [intOf]; omega
          · obtain rfl : j = m := by omega
            have hbl := hb2i.size
            have hb2a : Below w2.heap.size w2 (wr.alloc (.cells #[.int .i64 (v : Int)] 2)) := below_alloc (Nat.le_refl _) hb2i
            have hlit : OI 2 (wr.alloc (.cells #[.int .i64 (v : Int)] 2)) wr.heap.size (.slice (some ⟨wr.heap.size, 0, none⟩) 1 1) [(v : Int)] := OI.lit1 (Nat.le_refl _)
            have hlow := hol.below (below_alloc (o := .cells #[.int .i64 (v : Int)] 2) (Nat.le_refl _) (Below.refl wr.heap.size wr))
            go_wp2_with (go_at_call 69; refine (specBeyond _ _ _ k0 _ _ _ v (edL g.2.1 p k0) ls _ _ (Nat.le_refl _) (hE2.keep (keeps_below hb2a)) hlow.reads hlit.reads hvn hn0 HED.out).mono ?_; rintro e w7 ⟨bo, out, rfl, hob, hout, hb7⟩; have hcO := hob.at_ (i := v) (by rw [hout.1]; exact hvn); have hfal : gb out v = false := (by
              obtain ⟨P, hn, h1, h2⟩ := HNv.out
              cases he : gb out v with
              | false => rfl
              | true => exact absurd (hout.2 P ⟨fun u hu hi => h1 u hu (HI.out.2 u hi), fun y u hy hu hi => h2 y u hy hu (HI.out.2 u hi)⟩ v he) hn); rw [hfal] at hcO; clear hfal hout)
            exact ⟨⟨k + 1, by omega, by go_num, rfl, below_then hb7 hb2a.size hb2a⟩, by simp [intOf]; omega⟩
    · obtain rfl : k = m := by omega
      have ho := ho2.below hb2r
      go_wp2
      go_ret
      exact ⟨_, rfl, ho.more hB, hbr.mono hB⟩
end Go.Proofs.Ytblmcmccdeelgaa
namespace Go.Proofs.Ytblmcmccdeelgaa
open Go.RowKit

set_option maxRecDepth 100000 in
set_option maxHeartbeats 1600000 in
theorem cleanIn (s0 s1 s2 : Value) (g : ParD) (who : Int) (C D : Option Addr) (m d k c : Nat) (R p : List Int) (w : World) (B : Nat) (hB : B ≤ w.heap.size) (ha : RPv w s0 s1 s2 g) (hr : RI w C m d R) (hp : RI w D k c p) (H : RightW g who R p) (HNB : NoBad g who R p) :
    Calls Try.prog 29 #[.agg #[s0, s1, s2], .int .i64 who, .slice C m d, .slice D k c] w fun e w' => e = .returned (.bool true) ∧ Below B w w' := by
  obtain ⟨A0, n0, c0, A1, n1, c1, A2, n2, c2, rfl, rfl, rfl⟩ := ha.form
  have bx := Box.new w 34 #[.slice A0 n0 c0, .slice A1 n1 c1, .slice A2 n2 c2]
  have hwL : Below w.heap.size w (w.alloc (.cells #[.slice A0 n0 c0, .slice A1 n1 c1, .slice A2 n2 c2] 34)) := below_alloc (Nat.le_refl _) (Below.refl _ _)
  have q0 := bx.c0; have q1 := bx.c1; have q2 := bx.c2
  have HH := Lib.hid H
  have HN := Lib.hid HNB
  clear H HNB
  go_enter Try.func29, Try.ntmps29
  go_wp2_with fail
  refine (l6Right _ _ _ g _ _ _ _ _ _ _ R p _ _ (Nat.le_refl _) (ha.keep (keeps_below hwL)) (hr.keep (keeps_below hwL)) (hp.keep (keeps_below hwL)) HH.out).mono ?_; rintro e w1 ⟨rfl, hb1⟩
  have bx1 := bx.below hb1 bx.lt
  have hw1 := below_then hb1 hwL.size hwL
  have k0 := bx1.c0; have k1 := bx1.c1; have k2 := bx1.c2
  clear q0 q1 q2
  go_wp2_with fail
  refine (badLoops _ _ _ g _ _ _ _ _ _ _ R p _ _ (Nat.le_refl _) (ha.keep (keeps_below hw1)) (hr.keep (keeps_below hw1)) (hp.keep (keeps_below hw1)) HH.out HN.out).mono ?_; rintro e w2 ⟨v, rfl, hv, hb2⟩
  obtain ⟨Av, cv, hv2⟩ : ∃ A c, v = .slice A 0 c := hv.form
  subst hv2
  go_wp2
  go_ret
  exact ⟨rfl, (below_then hb2 hw1.size hw1).mono hB⟩
/-- the region is closed under the plan and under what the other one can do -/
def ClosedW (g : ParD) (who : Int) (R p : List Int) : Prop := ∀ v : Nat, (v : Int) ∈ R → (gi g.1 v = who → 0 ≤ gi p v ∧ gi p v ∈ R) ∧ (gi g.1 v ≠ who → ∀ j, j < (gl g.2.1 v).length → gi (gl g.2.1 v) j ∈ R)
set_option maxRecDepth 100000 in
set_option maxHeartbeats 1600000 in
theorem closedIn (A0 A1 : Option Addr) (n0 c0 n1 c1 : Nat) (g : ParD) (who : Int) (C D : Option Addr) (m d k0 c : Nat) (R p : List Int) (w : World) (B : Nat) (hB : B ≤ w.heap.size) (ha : RI w A0 n0 c0 g.1) (hx : RII w A1 n1 c1 g.2.1) (hr : RI w C m d R) (hp : RI w D k0 c p) (H : RightW g who R p) (HC : ClosedW g who R p) :
    Calls Try.prog 30 #[.agg #[.slice A0 n0 c0, .slice A1 n1 c1], .int .i64 who, .slice C m d, .slice D k0 c] w fun e w' => e = .returned (.bool true) ∧ Below B w w' := by
  have b1 := ha.cap; have b2 := ha.top; have b3 := hx.cap; have b4 := hx.top; have b7 := hr.cap; have b8 := hr.top; have b9 := hp.cap; have b10 := hp.top
  have bx := Box.new w 30 #[.slice A0 n0 c0, .slice A1 n1 c1]
  have hwL : Below w.heap.size w (w.alloc (.cells #[.slice A0 n0 c0, .slice A1 n1 c1] 30)) := below_alloc (Nat.le_refl _) (Below.refl _ _)
  have HH := Lib.hid H
  have HCC := Lib.hid HC
  have hf := finePar_of H.par
  have HL := Lib.hid ha.len; have HX := Lib.hid hx.len; have HR := Lib.hid hr.len
  have hn1 : n1 = n0 := by have := hf.1.2.2.1; rw [HX.out, HL.out] at this; exact this
  have hn0 : n0 ≤ 256 := by have := hf.1.2.1; rw [HL.out] at this; exact this
  have hk0 : k0 = n0 := by have := H.plan.1; rw [hp.len, HL.out] at this; exact this
  subst hn1; subst hk0
  have HF := Lib.hid hf
  have HSet : Hid (setB R (k0 : Int) = true) := Lib.hid (by rw [← HL.out]; exact H.set)
  clear hf H HC
  have q0 := bx.d0; have q1 := bx.d1
  go_enter Try.func30, Try.ntmps30
  go_wp2_with fail
  refine (planOk _ _ _ _ _ _ _ _ _ g.1 g.2.1 _ p _ _ (Nat.le_refl _) (ha.keep (keeps_below hwL)) (hx.keep (keeps_below hwL)) (hp.keep (keeps_below hwL)) HF.out.1 (parB_parts HH.out.par) HH.out.who01 HH.out.plan).mono ?_; rintro e w1 ⟨rfl, hb1⟩
  have bx1 := bx.below hb1 bx.lt
  have hw1 := below_then hb1 hwL.size hwL
  clear q0 q1
  have q0 := bx1.d0; have q1 := bx1.d1
  go_wp2_with fail
  refine (l1Set _ _ _ R _ _ (hr.keep (keeps_below hw1)) (by omega) (by omega)).mono ?_; rintro e w2 ⟨rfl, qq2⟩
  rw [HSet.out]
  have hb2 := below_qt qq2 (Below.refl w1.heap.size w1)
  have bx2 := bx1.below hb2 bx1.lt
  have hw2 := below_then hb2 hw1.size hw1
  clear q0 q1 bx1
  have q0 := bx2.d0; have q1 := bx2.d1
  go_wp2_with fail
  refine (l1Marks k0 _ _ _ R _ _ (Nat.le_refl _) (hr.keep (keeps_below hw2)) HSet.out (by omega)).mono ?_; rintro e w3 ⟨vm, rfl, hm3, hb3⟩
  have bx3 := bx2.below hb3 bx2.lt
  have hw3 := below_then hb3 hw2.size hw2
  obtain ⟨Am, cm, rfl⟩ := hm3.form
  rw [mkM_len] at hm3 ⊢
  have hM := hm3.reads
  have bm1 := hM.cap; have bm2 := hM.top
  clear q0 q1 bx2
  have HMM := Lib.hid (fun u (hu : u < k0) => mkM_iff (m := k0) (xs := R) hu)
  go_wp2
  go_loopw [10] (fun i wr => ∃ k : Nat, k ≤ m ∧ i = .int .i64 (k : Int) ∧ wr = w3) (fun i _ => m - (intOf i).toNat)
  case atStart => exact ⟨0, Nat.zero_le _, rfl, by first | trivial | rfl⟩
  case round =>
    obtain ⟨k, hk, rfl, rfl⟩ := hrel
    have q0 := bx3.d0; have q1 := bx3.d1
    by_cases hlt : k < m
    · obtain ⟨v, hv, hvn⟩ := set_nat HSet.out (show k < R.length by rw [HR.out]; exact hlt)
      have HV : Hid ((v : Int) ∈ R) := Lib.hid (by rw [← hv]; exact gi_mem (by rw [HR.out]; exact hlt))
      obtain ⟨bC, oC, hC, hcC⟩ := (hr.keep (keeps_below hw3)).at_ hlt
      subst hC
      rw [hv] at hcC
      obtain ⟨bO, oO, hO, hcO⟩ := (ha.keep (keeps_below hw3)).at_ hvn
      subst hO
      obtain ⟨bP, oP, hP, hcP⟩ := (hp.keep (keeps_below hw3)).at_ hvn
      subst hP
      have hcl := HCC.out v HV.out
      clear hv
      by_cases how : gi g.1 v = who
      · obtain ⟨h0, hin⟩ := hcl.1 how
        have e4 : (gi g.1 v == who) = true := by simp [how]
        obtain ⟨u, hu⟩ := Int.eq_ofNat_of_zero_le h0
        obtain ⟨i, hi, he⟩ := mem_gi hin
        obtain ⟨u', hu', hun'⟩ := set_nat HSet.out hi
        have hun : u < k0 := by omega
        obtain ⟨bM, oM, hMm, hcM⟩ := hM.at_ hun
        subst hMm
        rw [(HMM.out u hun).2 (by rw [← hu]; exact hin)] at hcM
        rw [hu] at hcP
        clear hcl how h0 hin hu hi he hu'
        go_wp2
        go_roundw
        case rel => exact ⟨k + 1, by omega, by go_num, by first | trivial | rfl⟩
        case measure => simp [intOf]; omega
      · have hall := hcl.2 how
        have HALL := Lib.hid hall
        have e4 : (gi g.1 v == who) = false := by simp [how]
        obtain ⟨bN, oN, A', n', c', hN, hcN, hrN⟩ := (hx.keep (keeps_below hw3)).at_ hvn
        subst hN
        have r1 := hrN.cap; have r2 := hrN.top
        have HRL := Lib.hid hrN.len
        clear hcl how hall
        go_wp2
        go_loopw [12] (fun i wi => ∃ j : Nat, j ≤ n' ∧ i = .int .i64 (j : Int) ∧ wi = wr) (fun i _ => n' - (intOf i).toNat)
        case atStart => exact ⟨0, Nat.zero_le _, rfl, by first | trivial | rfl⟩
        case round =>
          obtain ⟨j, hj, rfl, rfl⟩ := hrel
          by_cases hjl : j < n'
          · obtain ⟨bj, oj, hA', hcj⟩ := hrN.at_ hjl
            subst hA'
            have hin := HALL.out j (by rw [HRL.out]; exact hjl)
            obtain ⟨i, hi, he⟩ := mem_gi hin
            obtain ⟨u, hu, hun⟩ := set_nat HSet.out hi
            have hju : gi (gl g.2.1 v) j = (u : Int) := by rw [← he]; exact hu
            obtain ⟨bM, oM, hMm, hcM⟩ := hM.at_ hun
            subst hMm
            rw [(HMM.out u hun).2 (by rw [← hju]; exact hin)] at hcM
            rw [hju] at hcj
            clear hin hi he hu hju
            go_wp2
            go_roundw
            case rel => exact ⟨j + 1, by omega, by go_num, by first | trivial | rfl⟩
            case measure => simp [intOf]; omega
          · obtain rfl : j = n' := by omega
            go_wp2
            exact ⟨⟨k + 1, by omega, by go_num, by first | trivial | rfl⟩, by simp [intOf]; omega⟩
    · obtain rfl : k = m := by omega
      go_wp2
      go_ret
      exact ⟨rfl, hw3.mono hB⟩
set_option maxRecDepth 100000 in
set_option maxHeartbeats 1600000 in
theorem winsBy (s0 s1 s2 : Value) (g : ParD) (who : Int) (C D : Option Addr) (m d k c : Nat) (R p : List Int) (w : World) (B : Nat) (hB : B ≤ w.heap.size) (ha : RPv w s0 s1 s2 g) (hr : RI w C m d R) (hp : RI w D k c p) (H : RightW g who R p) (HNB : NoBad g who R p) (HC : ClosedW g who R p) :
    Calls Try.prog 15 #[.agg #[s0, s1, s2], .int .i64 who, .slice C m d, .slice D k c] w fun e w' => e = .returned (.bool true) ∧ Below B w w' := by
  obtain ⟨A0, n0, c0, A1, n1, c1, A2, n2, c2, rfl, rfl, rfl⟩ := ha.form
  have bx := Box.new w 34 #[.slice A0 n0 c0, .slice A1 n1 c1, .slice A2 n2 c2]
  have hwL : Below w.heap.size w (w.alloc (.cells #[.slice A0 n0 c0, .slice A1 n1 c1, .slice A2 n2 c2] 34)) := below_alloc (Nat.le_refl _) (Below.refl _ _)
  have q0 := bx.c0; have q1 := bx.c1; have q2 := bx.c2
  have HH := Lib.hid H
  have HN := Lib.hid HNB
  have HCl := Lib.hid HC
  clear H HNB HC
  go_enter Try.func15, Try.ntmps15
  go_wp2_with fail
  refine (cleanIn _ _ _ g _ _ _ _ _ _ _ R p _ _ (Nat.le_refl _) (ha.keep (keeps_below hwL)) (hr.keep (keeps_below hwL)) (hp.keep (keeps_below hwL)) HH.out HN.out).mono ?_; rintro e w1 ⟨rfl, hb1⟩
  have bx1 := bx.below hb1 bx.lt
  have hw1 := below_then hb1 hwL.size hwL
  have k0 := bx1.c0; have k1 := bx1.c1; have k2 := bx1.c2
  clear q0 q1 q2
  go_wp2_with fail
  refine (closedIn _ _ _ _ _ _ g _ _ _ _ _ _ _ R p _ _ (Nat.le_refl _) (ha.ri.keep (keeps_below hw1)) (ha.rii.keep (keeps_below hw1)) (hr.keep (keeps_below hw1)) (hp.keep (keeps_below hw1)) HH.out HCl.out).mono ?_; rintro e w2 ⟨rfl, hb2⟩
  go_wp2
  go_ret
  exact ⟨rfl, (below_then hb2 hw1.size hw1).mono hB⟩
/-- whose vertices -/
def regU (won : List Int) (who : Int) (k : Nat) : List Int := pick (fun v => gi won v == who) (fun v => (v : Int)) k
set_option maxRecDepth 100000 in
set_option maxHeartbeats 1600000 in
theorem specRegion (A0 A1 : Option Addr) (n0 c0 n1 c1 : Nat) (won : List Int) (who : Int) (w : World) (B : Nat) (hB : B ≤ w.heap.size) (ha : RI w A0 n0 c0 won) (hn : n0 ≤ 256) :
    Calls Try.prog 18 #[.agg #[.slice A0 n0 c0, .slice A1 n1 c1], .int .i64 who] w fun e w' => ∃ v, e = .returned v ∧ OI 2 w' B v (regU won who n0) ∧ Below B w w' := by
  have b1 := ha.cap; have b2 := ha.top
  have bx := Box.new w 44 #[.slice A0 n0 c0, .slice A1 n1 c1]
  have hwL : Below w.heap.size w (w.alloc (.cells #[.slice A0 n0 c0, .slice A1 n1 c1] 44)) := below_alloc (Nat.le_refl _) (Below.refl _ _)
  have hn' : (n0 : Int) ≤ 256 := by omega
  go_enter Try.func18, Try.ntmps18
  go_wp2
  go_loopw [5, 6] (fun v i wr => ∃ k : Nat, k ≤ n0 ∧ i = .int .i64 (k : Int) ∧ OI 2 wr (w.heap.size + 1) v (regU won who k) ∧ Box wr w.heap.size 44 #[.slice A0 n0 c0, .slice A1 n1 c1] ∧ Below w.heap.size w wr) (fun _ i _ => n0 - (intOf i).toNat)
  case atStart =>
    refine ⟨0, Nat.zero_le _, rfl, ?_, bx.alloc _, below_alloc (Nat.le_refl _) hwL⟩
    have h := OI.empty (E := 2) (w := w.alloc (.cells #[.slice A0 n0 c0, .slice A1 n1 c1] 44)) (B := w.heap.size + 1) (by simp)
    simpa [regU, pick] using h
  case round =>
    obtain ⟨k, hk, rfl, ho, bX, hbr⟩ := hrel
    have q0 : wr.cell? ⟨w.heap.size, 0, none⟩ = some (.slice A0 n0 c0) := bX.cell 0
    obtain ⟨Av, cv, rfl⟩ := ho.form
    have hll : (regU won who k).length ≤ 4194304 := by have : (regU won who k).length ≤ k := pick_len _ _ _; omega
    have hbl := bX.lt
    by_cases hlt : k < n0
    · obtain ⟨bW, oW, hW, hcW⟩ := (ha.keep (keeps_below hbr)).at_ hlt
      subst hW
      by_cases he : gi won k = who
      · have e4 : (gi won k == who) = true := by simp [he]
        have HU : Hid (regU won who (k + 1) = regU won who k ++ [(k : Int)]) := Lib.hid (by unfold regU; exact pick_yes e4)
        clear he
        go_wp2_with (at_builtin; refine wpList_pushI rfl (.tmp 28) (.tmp 30) rfl wr (w.heap.size + 1) (.slice Av (regU won who k).length cv) (regU won who k) rfl ho (k : Int) rfl hll hbl ?_; intro v2 w2 ho2 hb2 hc2 hat2)
        go_roundw
        case rel => exact ⟨k + 1, by omega, by go_num, by rw [HU.out]; exact ho2, bX.below hb2 (by omega), hbr.trans (hb2.mono (by omega))⟩
        case measure => simp [intOf]; omega
      · have e4 : (gi won k == who) = false := by simp [he]
        have HU : Hid (regU won who (k + 1) = regU won who k) := Lib.hid (by unfold regU; exact pick_no e4)
        clear he
        go_wp2
        go_roundw
        case rel => exact ⟨k + 1, by omega, by go_num, by rw [HU.out]; exact ho, bX, hbr⟩
        case measure => simp [intOf]; omega
    · obtain rfl : k = n0 := by omega
      go_wp2
      go_ret
      exact ⟨_, rfl, ho.more (Nat.le_trans hB (by omega)), hbr.mono hB⟩
end Go.Proofs.Ytblmcmccdeelgaa
namespace Go.Proofs.Ytblmcmccdeelgaa
open Go.RowKit

section
variable {o : List Int} {n : List (List Int)} {p : List Int}
theorem ed_mem {N x u : Nat} (hx : x < N) (h : (u : Int) ∈ gl (edL n p N) x) : (0 ≤ gi p x ∧ gi p x = (u : Int)) ∨ (¬ 0 ≤ gi p x ∧ ∃ i, i < (gl n x).length ∧ gi (gl n x) i = (u : Int)) := by
  rw [edL_at hx] at h
  split at h
  · rename_i h0
    exact .inl ⟨h0, by have : (u : Int) = gi p x := by simpa using h
                       exact this.symm⟩
  · rename_i h0
    exact .inr ⟨h0, mem_gi h⟩
/-- an edge by a plan is an edge; where it is one's own, the plan's -/
theorem ed_row {who : Int} {x u : Nat} (hp : fineP o n who p) (hx : x < o.length) (h : (u : Int) ∈ gl (edL n p o.length) x) (hpos : gi o x = who → 0 ≤ gi p x) : ∃ i, i < (gl n x).length ∧ gi (gl n x) i = (u : Int) ∧ (gi o x = who → gi p x = gi (gl n x) i) := by
  rcases ed_mem hx h with ⟨h0, e⟩ | ⟨h0, i, hi, e⟩
  · rcases hp.2 x hx with h1 | ⟨_, h1⟩
    · omega
    · obtain ⟨i, hi, he⟩ := has_row h1
      exact ⟨i, hi, by rw [he]; exact e, fun _ => he.symm⟩
  · exact ⟨i, hi, e, fun hw => absurd (hpos hw) h0⟩
end
section
variable {z : ArD} {s : List Int}
theorem mk_pr {a b : Int} {v : Nat} (hv : v < z.1.length) : gi (markedG z s a b).2.2 v = if hasL s (v : Int) = true then a else b := by
  unfold markedG prioUp
  simp [gi, hv]
theorem mk_par {a b : Int} (ha : arB z.1 z.2 = true) (h1 : 0 ≤ a ∧ a ≤ 40) (h2 : 0 ≤ b ∧ b ≤ 40) : parB (markedG z s a b) = true := by
  refine parB_yes ha ⟨prioUp_len _ _ _ _, fun i hi => ?_⟩
  have hi' : i < z.1.length := by have : (markedG z s a b).2.2.length = z.1.length := prioUp_len _ _ _ _; omega
  rw [mk_pr hi']
  split <;> omega
theorem oks (ha : arB z.1 z.2 = true) (hs : setB s (z.1.length : Int) = true) : okA z.1 z.2 0 s = true := by
  unfold okA
  rw [ha, hs, show inR 0 0 1 = true from rfl]
  rfl
theorem other_other {N : Nat} (hs : setB s (N : Int) = true) : otherL N (otherL N s) = s := by
  have hr : ∀ t, rises (otherL N t) := fun t => pick_rises fun i j h _ => by omega
  refine rises_ext (hr _) (rises_set hs) (fun x => ?_)
  have nat : ∀ t, x ∈ otherL N t → ∃ v : Nat, v < N ∧ x = (v : Int) := fun t h => by
    obtain ⟨v, hv, _, e⟩ := mem_other.1 h
    exact ⟨v, hv, e.symm⟩
  constructor
  · intro h
    obtain ⟨v, hv, rfl⟩ := nat _ h
    have h1 := (other_iff hv).1 h
    exact Decidable.of_not_not fun h2 => h1 ((other_iff hv).2 h2)
  · intro h
    have hb := set_mem hs h
    obtain ⟨v, rfl⟩ := Int.eq_ofNat_of_zero_le hb.1
    exact (other_iff (by omega)).2 fun h2 => (other_iff (by omega)).1 h2 h
theorem other_if {N v : Nat} {a b : Int} (hv : v < N) : (if hasL s (v : Int) = true then a else b) = if hasL (otherL N s) (v : Int) = true then b else a := by
  by_cases h : hasL s (v : Int) = true
  · rw [if_pos h, if_neg (fun k => (other_iff hv).1 (hasL_iff.1 k) (hasL_iff.1 h))]
  · rw [if_neg h, if_pos (hasL_iff.2 ((other_iff hv).2 fun k => h (hasL_iff.2 k)))]
theorem reg_is {g : ParD} {R : List Int} (hR : setB R (g.1.length : Int) = true) (h1 : ∀ v, v < g.1.length → (v : Int) ∈ R → wonV g v = 0) (h2 : ∀ v, v < g.1.length → ¬ (v : Int) ∈ R → wonV g v = 1) : regU (wonL g) 0 g.1.length = R := by
  refine rises_ext (pick_rises fun i j h _ => by omega) (rises_set hR) (fun x => ?_)
  unfold regU
  rw [mem_pick]
  constructor
  · rintro ⟨v, hv, hw, rfl⟩
    rw [wonL_at hv] at hw
    refine Decidable.of_not_not fun hn => ?_
    rw [h2 v hv hn] at hw
    exact absurd hw (by decide)
  · intro hx
    have hb := set_mem hR hx
    obtain ⟨v, rfl⟩ := Int.eq_ofNat_of_zero_le hb.1
    have hv : v < g.1.length := by omega
    exact ⟨v, hv, by rw [wonL_at hv, h1 v hv hx]; rfl, rfl⟩
/-! ### often -/
theorem oft_right (ha : arB z.1 z.2 = true) : RightW (markedG z s 2 1) 0 (oftL z.1 z.2 0 s) (oftPlanL z.1 z.2 0 s) :=
  ⟨mk_par ha (by omega) (by omega), by omega, planL_fine (fineAr_of ha) _ _, oftL_set z.1 z.2 0 s⟩
theorem oft_nobad (ha : arB z.1 z.2 = true) : NoBad (markedG z s 2 1) 0 (oftL z.1 z.2 0 s) (oftPlanL z.1 z.2 0 s) := by
  have hf := fineAr_of ha
  have lt : ∀ v : Nat, (v : Int) ∈ oftL z.1 z.2 0 s → v < z.1.length := fun v hv => by have := set_mem (oftL_set z.1 z.2 0 s) hv; omega
  have hpf : fineP z.1 z.2 0 (oftPlanL z.1 z.2 0 s) := planL_fine hf _ _
  intro v hv hne
  have hvN := lt v hv
  have pv := mk_pr (s := s) (a := 2) (b := 1) hvN
  have hvs : ¬ hasL s (v : Int) = true := fun h => by rw [pv, if_pos h] at hne; exact hne (by decide)
  rw [if_neg hvs] at pv
  have low : ∀ u : Nat, ((u : Int) ∈ oftL z.1 z.2 0 s ∧ gi (markedG z s 2 1).2.2 u ≤ gi (markedG z s 2 1).2.2 v) → ¬ (u : Int) ∈ s := fun u h hs => by
    have pu := mk_pr (s := s) (a := 2) (b := 1) (lt u h.1)
    rw [if_pos (hasL_iff.2 hs)] at pu
    have := h.2
    omega
  have step : ∀ x u : Nat, (x : Int) ∈ oftL z.1 z.2 0 s → ¬ (x : Int) ∈ s → (u : Int) ∈ gl (edL z.2 (oftPlanL z.1 z.2 0 s) z.1.length) x → gi (ranksL z.1 z.2 0 (oftL z.1 z.2 0 s) s) u < gi (ranksL z.1 z.2 0 (oftL z.1 z.2 0 s) s) x := fun x u hx hxs he => by
    obtain ⟨i, hi, e, hc⟩ := ed_row hpf (lt x hx) he (fun hw => (oft_val hf (lt x hx) hx hw).1)
    have := (oft_law hf (lt x hx) hx hi hc).2
    rw [e, Int.toNat_natCast] at this
    rcases this with h | h
    · exact absurd h hxs
    · exact h
  refine ⟨fun u => (u : Int) ∈ oftL z.1 z.2 0 s ∧ ¬ (u : Int) ∈ s ∧ gi (ranksL z.1 z.2 0 (oftL z.1 z.2 0 s) s) u < gi (ranksL z.1 z.2 0 (oftL z.1 z.2 0 s) s) v, fun h => by have := h.2.2; omega, fun u he hl => ⟨hl.1, low u hl, step v u hv (fun h => hvs (hasL_iff.2 h)) he⟩, fun x u hP he hl => ⟨hl.1, low u hl, ?_⟩⟩
  have := step x u hP.1 hP.2.1 he
  have := hP.2.2
  omega
theorem oft_closed (ha : arB z.1 z.2 = true) : ClosedW (markedG z s 2 1) 0 (oftL z.1 z.2 0 s) (oftPlanL z.1 z.2 0 s) := by
  have hf := fineAr_of ha
  intro v hv
  have hvN : v < z.1.length := by have := set_mem (oftL_set z.1 z.2 0 s) hv; omega
  refine ⟨fun own => ⟨(oft_val hf hvN hv own).1, ?_⟩, fun hne j hj => (oft_law hf hvN hv hj (fun e => absurd e hne)).1⟩
  obtain ⟨i, hi, e⟩ := oft_edge hf hvN hv own
  rw [← e]
  exact (oft_law hf hvN hv hi (fun _ => e.symm)).1
theorem oft_region (ha : arB z.1 z.2 = true) : regU (wonL (markedG z s 2 1)) 0 z.1.length = oftL z.1 z.2 0 s := by
  have hf := finePar_of (mk_par (s := s) (a := 2) (b := 1) ha (by omega) (by omega))
  refine reg_is (g := markedG z s 2 1) (oftL_set z.1 z.2 0 s) (fun v hv hm => ?_) (fun v hv hm => ?_)
  · exact won_is hf (.inl rfl) hv ⟨_, _, oft_wins (g := markedG z s 2 1) (T := s) (a := 2) (b := 1) hf (by decide) (by decide) (fun v hv => mk_pr hv), hv, hm⟩
  · have ho := often_other (o := z.1) (n := z.2) (who := 0) (goal := s) (fineAr_of ha) (by omega)
    have hx : (v : Int) ∈ wonUp (levelsL z.1 z.2 (1 - 0) (otherL z.1.length s)) z.1.length := by rw [ho]; exact (other_iff hv).2 hm
    obtain ⟨u, hu, hl, e⟩ := mem_wonUp.1 hx
    obtain rfl : u = v := by omega
    refine won_is hf (.inr rfl) hv ⟨_, _, stay_wins (g := markedG z s 2 1) (i := 1) (T := otherL z.1.length s) (a := 1) (b := 2) hf (by decide) (fun v hv => ?_), hv, hl⟩
    exact (mk_pr hv).trans (other_if hv)
/-! ### stays -/
theorem st_lt {x : Nat} (h : (x : Int) ∈ wonUp (levelsL z.1 z.2 0 s) z.1.length) : x < z.1.length ∧ 0 ≤ gi (levelsL z.1 z.2 0 s) x := by
  obtain ⟨u, hu, hl, e⟩ := mem_wonUp.1 h
  obtain rfl : u = x := by omega
  exact ⟨hu, hl⟩
theorem st_mem {x : Nat} (h : x < z.1.length) (hl : 0 ≤ gi (levelsL z.1 z.2 0 s) x) : (x : Int) ∈ wonUp (levelsL z.1 z.2 0 s) z.1.length := mem_wonUp.2 ⟨x, h, hl, rfl⟩
theorem st_set : setB (wonUp (levelsL z.1 z.2 0 s) z.1.length) (z.1.length : Int) = true :=
  setB_of_rises (pick_rises fun i j h _ => by omega) (fun x hx => by obtain ⟨u, hu, _, e⟩ := mem_wonUp.1 hx; omega)
theorem st_right (ha : arB z.1 z.2 = true) : RightW (markedG z s 0 1) 0 (wonUp (levelsL z.1 z.2 0 s) z.1.length) (fill (planV z.1 z.2 0 (levelsL z.1 z.2 0 s)) z.1.length) :=
  ⟨mk_par ha (by omega) (by omega), by omega, planF_fine (fineAr_of ha) _, st_set⟩
theorem st_law (ha : arB z.1 z.2 = true) {x u : Nat} (hx : x < z.1.length) (h0 : 0 ≤ gi (levelsL z.1 z.2 0 s) x) (he : (u : Int) ∈ gl (edL z.2 (fill (planV z.1 z.2 0 (levelsL z.1 z.2 0 s)) z.1.length) z.1.length) x) :
    gi (levelsL z.1 z.2 0 s) u ≤ gi (levelsL z.1 z.2 0 s) x ∧ (gi (levelsL z.1 z.2 0 s) u = gi (levelsL z.1 z.2 0 s) x → hasL s (x : Int) = true) := by
  have hf := fineAr_of ha
  obtain ⟨i, hi, e, hc⟩ := ed_row (planF_fine (who := 0) hf (levelsL z.1 z.2 0 s)) hx he (fun hw => by rw [fill_at hx]; exact planV_pos hf hx h0 hw)
  have := levels_law (s := s) hf hx hi h0 (fun hw => by have h1 := hc hw; rw [fill_at hx] at h1; exact h1)
  rw [e, Int.toNat_natCast] at this
  exact this.2
theorem st_nobad (ha : arB z.1 z.2 = true) : NoBad (markedG z s 0 1) 0 (wonUp (levelsL z.1 z.2 0 s) z.1.length) (fill (planV z.1 z.2 0 (levelsL z.1 z.2 0 s)) z.1.length) := by
  intro v hv hne
  obtain ⟨hvN, hl⟩ := st_lt hv
  have pv := mk_pr (s := s) (a := 0) (b := 1) hvN
  have hvs : ¬ hasL s (v : Int) = true := fun h => by rw [pv, if_pos h] at hne; exact hne (by decide)
  refine ⟨fun u => (u < z.1.length ∧ 0 ≤ gi (levelsL z.1 z.2 0 s) u) ∧ gi (levelsL z.1 z.2 0 s) u < gi (levelsL z.1 z.2 0 s) v, fun h => by have := h.2; omega, fun u he hl2 => ⟨st_lt hl2.1, ?_⟩, fun x u hP he hl2 => ⟨st_lt hl2.1, ?_⟩⟩
  · have h1 := st_law ha hvN hl he
    have h2 : gi (levelsL z.1 z.2 0 s) u ≠ gi (levelsL z.1 z.2 0 s) v := fun e => hvs (h1.2 e)
    have := h1.1
    omega
  · have h1 := (st_law ha hP.1.1 hP.1.2 he).1
    have := hP.2
    omega
theorem st_closed (ha : arB z.1 z.2 = true) : ClosedW (markedG z s 0 1) 0 (wonUp (levelsL z.1 z.2 0 s) z.1.length) (fill (planV z.1 z.2 0 (levelsL z.1 z.2 0 s)) z.1.length) := by
  have hf := fineAr_of ha
  intro v hv
  obtain ⟨hvN, hl⟩ := st_lt hv
  have law : ∀ i, i < (gl z.2 v).length → (gi z.1 v = 0 → planV z.1 z.2 0 (levelsL z.1 z.2 0 s) v = gi (gl z.2 v) i) → gi (gl z.2 v) i ∈ wonUp (levelsL z.1 z.2 0 s) z.1.length := fun i hi hc => by
    have h1 := levels_law (s := s) hf hvN hi hl hc
    obtain ⟨h2, h3⟩ := row_nat hf hvN hi
    rw [← h3]
    exact st_mem h2 h1.1
  refine ⟨fun own => ?_, fun hne j hj => law j hj (fun e => absurd e hne)⟩
  have hpos := planV_pos (s := s) hf hvN hl own
  show 0 ≤ gi (fill (planV z.1 z.2 0 (levelsL z.1 z.2 0 s)) z.1.length) v ∧ gi (fill (planV z.1 z.2 0 (levelsL z.1 z.2 0 s)) z.1.length) v ∈ _
  rw [fill_at hvN]
  refine ⟨hpos, ?_⟩
  rcases (planF_fine (who := 0) hf (levelsL z.1 z.2 0 s)).2 v hvN with h | h
  · rw [fill_at hvN] at h; omega
  · rw [fill_at hvN] at h
    obtain ⟨i, hi, e⟩ := has_row h.2
    rw [← e]
    exact law i hi (fun _ => e.symm)
theorem st_region (ha : arB z.1 z.2 = true) (hs : setB s (z.1.length : Int) = true) : regU (wonL (markedG z s 0 1)) 0 z.1.length = wonUp (levelsL z.1 z.2 0 s) z.1.length := by
  have hf := finePar_of (mk_par (s := s) (a := 0) (b := 1) ha (by omega) (by omega))
  refine reg_is (g := markedG z s 0 1) st_set (fun v hv hm => ?_) (fun v hv hm => ?_)
  · exact won_is hf (.inl rfl) hv ⟨_, _, stay_wins (g := markedG z s 0 1) (i := 0) (T := s) (a := 0) (b := 1) hf (by decide) (fun v hv => mk_pr hv), hv, (st_lt hm).2⟩
  · have ho := often_other (o := z.1) (n := z.2) (who := 1) (goal := otherL z.1.length s) (fineAr_of ha) (by omega)
    rw [other_other hs] at ho
    have hv' : v < z.1.length := hv
    have hx : (v : Int) ∈ oftL z.1 z.2 1 (otherL z.1.length s) := by
      refine Decidable.of_not_not fun hn => hm ?_
      have h1 := (other_iff hv').2 hn
      rw [← ho] at h1
      exact h1
    refine won_is hf (.inr rfl) hv ⟨_, _, oft_wins (g := markedG z s 0 1) (i := 1) (T := otherL z.1.length s) (a := 1) (b := 0) hf (by decide) (by decide) (fun v hv => ?_), hv, hx⟩
    exact (mk_pr hv).trans (other_if hv)
end
end Go.Proofs.Ytblmcmccdeelgaa
namespace Go.Proofs.Ytblmcmccdeelgaa
open Go.RowKit
theorem oftenG_yes {z : ArD} {s : List Int} {a b : Int} (h : okA z.1 z.2 0 s = true) : oftenG z s a b = markedG z s a b := by unfold oftenG; rw [if_pos h]
theorem oftenG_no {z : ArD} {s : List Int} {a b : Int} (h : okA z.1 z.2 0 s = false) : oftenG z s a b = ([], [], []) := by unfold oftenG; rw [if_neg (by rw [h]; decide)]

set_option maxRecDepth 100000 in
set_option maxHeartbeats 800000 in
theorem implOftenGame (s0 s1 : Value) (C : Option Addr) (m d : Nat) (z : ArD) (s : List Int) (w : World) (B : Nat) (hB : B ≤ w.heap.size) (ha : RAv w s0 s1 z.1 z.2) (hs : RI w C m d s) :
    Calls Try.prog 8 #[.agg #[s0, s1], .slice C m d] w fun e w' => ∃ t0 t1 t2, e = .returned (.agg #[t0, t1, t2]) ∧ OPar w' B t0 t1 t2 (oftenG z s 2 1) ∧ Below B w w' := by
  obtain ⟨G, hG0⟩ : ∃ G, oftenG z s 2 1 = G := ⟨_, rfl⟩
  rw [hG0]
  have HG := Lib.hid hG0
  clear hG0
  obtain ⟨A0, n0, c0, A1, n1, c1, rfl, rfl⟩ := ha.form
  have hwL : Below w.heap.size w ((w.alloc (.cells #[.slice A0 n0 c0, .slice A1 n1 c1] 30)).alloc (.cells #[.slice none 0 0, .slice none 0 0, .slice none 0 0] 34)) := below_alloc (Nat.le_refl _) (below_alloc (Nat.le_refl _) (Below.refl _ _))
  have bxL := (Box.new w 30 #[.slice A0 n0 c0, .slice A1 n1 c1]).alloc (.cells #[.slice none 0 0, .slice none 0 0, .slice none 0 0] 34)
  have brL : Box ((w.alloc (.cells #[.slice A0 n0 c0, .slice A1 n1 c1] 30)).alloc (.cells #[.slice none 0 0, .slice none 0 0, .slice none 0 0] 34)) (w.heap.size + 1) 34 #[.slice none 0 0, .slice none 0 0, .slice none 0 0] := Box.new' (by simp)
  have hsL : w.heap.size + 2 = ((w.alloc (.cells #[.slice A0 n0 c0, .slice A1 n1 c1] 30)).alloc (.cells #[.slice none 0 0, .slice none 0 0, .slice none 0 0] 34)).heap.size := by simp
  have q0 := bxL.d0; have q1 := bxL.d1
  cases hok : okA z.1 z.2 0 s with
  | false =>
    go_enter Try.func8, Try.ntmps8
    go_wp2_with fail
    generalize ((w.alloc (.cells #[.slice A0 n0 c0, .slice A1 n1 c1] 30)).alloc (.cells #[.slice none 0 0, .slice none 0 0, .slice none 0 0] 34)) = W at *
    replace hsL : w.heap.size + 2 ≤ W.heap.size := by omega
    go_wp2_with (first
      | (go_at_call 22
         refine (canAttract _ _ _ _ _ _ _ _ _ _ _ _ s _ _ (Nat.le_refl _) (ha.ri.keep (keeps_below hwL)) (ha.rii.keep (keeps_below hwL)) (hs.keep (keeps_below hwL))).mono ?_
         rintro e wa ⟨rfl, hba⟩
         rw [hok]
         have hsa := hba.size
         have bxa := bxL.below hba (by omega)
         have bra := brL.below hba (by omega)
         have g0 := bxa.d0
         have g1 := bxa.d1
         obtain ⟨e0, e1, e2⟩ := bra.e2m
         have f0 := bra.hot 0
         have f1 := bra.hot 1
         have f2 := bra.hot 2
         have hwa : Below w.heap.size w wa := hwL.trans (hba.mono (by omega))))
    have ch := Chg.set3 wa (w.heap.size + 1) (.slice none 0 0) (.slice none 0 0) (.slice none 0 0)
    have bF := bra.set3 (.slice none 0 0) (.slice none 0 0) (.slice none 0 0)
    obtain ⟨R0, R1, R2⟩ := bF.e2m
    have hwF := hwa.trans (ch.below (B := w.heap.size) (by omega) (fun b hb => by omega))
    exact bodyPost_ret (v := .agg #[.slice none 0 0, .slice none 0 0, .slice none 0 0]) (by simp [results, Try.results8, go_sem, R0, R1, R2]) rfl ⟨_, _, _, rfl, by rw [← HG.out, oftenG_no hok]; exact OPar.nil _ _, hwF.mono hB⟩
  | true =>
    have HF := Lib.hid (okA_parts hok)
    have HQ := Lib.hid ((oftenG_yes (a := 2) (b := 1) hok).symm.trans HG.out)
    go_enter Try.func8, Try.ntmps8
    go_wp2_with fail
    generalize ((w.alloc (.cells #[.slice A0 n0 c0, .slice A1 n1 c1] 30)).alloc (.cells #[.slice none 0 0, .slice none 0 0, .slice none 0 0] 34)) = W at *
    replace hsL : w.heap.size + 2 ≤ W.heap.size := by omega
    go_wp2_with (first
      | (go_at_call 22
         refine (canAttract _ _ _ _ _ _ _ _ _ _ _ _ s _ _ (Nat.le_refl _) (ha.ri.keep (keeps_below hwL)) (ha.rii.keep (keeps_below hwL)) (hs.keep (keeps_below hwL))).mono ?_
         rintro e wa ⟨rfl, hba⟩
         rw [hok]
         have hsa := hba.size
         have bxa := bxL.below hba (by omega)
         have bra := brL.below hba (by omega)
         have g0 := bxa.d0
         have g1 := bxa.d1
         obtain ⟨e0, e1, e2⟩ := bra.e2m
         have f0 := bra.hot 0
         have f1 := bra.hot 1
         have f2 := bra.hot 2
         have hwa : Below w.heap.size w wa := hwL.trans (hba.mono (by omega)))
      | (go_at_call 23
         refine (markedGame _ _ _ _ _ z s 2 1 _ _ (Nat.le_refl _) (ha.keep (keeps_below hwa)) (hs.keep (keeps_below hwa)) (fineAr_of HF.out.1) HF.out.2.2).mono ?_
         rintro e w1 ⟨t0, t1, t2, rfl, ho1, hb1⟩
         rw [HQ.out] at ho1
         obtain ⟨X0, d0, X1, d1, X2, d2, rfl, rfl, rfl⟩ := ho1.form
         have br1 := bra.below hb1 (by omega)
         have hs1 := hb1.size
         obtain ⟨e0, e1, e2⟩ := br1.e2m
         have f0 := br1.hot 0
         have f1 := br1.hot 1
         have f2 := br1.hot 2
         have hw1 : Below w.heap.size w w1 := hwa.trans (hb1.mono (by omega))))
    have ch := Chg.set3 w1 (w.heap.size + 1) (.slice X0 G.1.length d0) (.slice X1 G.2.1.length d1) (.slice X2 G.2.2.length d2)
    have bF := br1.set3 (.slice X0 G.1.length d0) (.slice X1 G.2.1.length d1) (.slice X2 G.2.2.length d2)
    obtain ⟨R0, R1, R2⟩ := bF.e2m
    have hwF := hw1.trans (ch.below (B := w.heap.size) (by omega) (fun b hb => by omega))
    have fin := ho1.chg ch (fun b hb => by omega)
    exact bodyPost_ret (v := .agg #[.slice X0 G.1.length d0, .slice X1 G.2.1.length d1, .slice X2 G.2.2.length d2]) (by simp [results, Try.results8, go_sem, R0, R1, R2]) rfl ⟨_, _, _, rfl, fin.more (by omega), hwF.mono hB⟩

set_option maxRecDepth 100000 in
set_option maxHeartbeats 800000 in
theorem implStaysGame (s0 s1 : Value) (C : Option Addr) (m d : Nat) (z : ArD) (s : List Int) (w : World) (B : Nat) (hB : B ≤ w.heap.size) (ha : RAv w s0 s1 z.1 z.2) (hs : RI w C m d s) :
    Calls Try.prog 10 #[.agg #[s0, s1], .slice C m d] w fun e w' => ∃ t0 t1 t2, e = .returned (.agg #[t0, t1, t2]) ∧ OPar w' B t0 t1 t2 (oftenG z s 0 1) ∧ Below B w w' := by
  obtain ⟨G, hG0⟩ : ∃ G, oftenG z s 0 1 = G := ⟨_, rfl⟩
  rw [hG0]
  have HG := Lib.hid hG0
  clear hG0
  obtain ⟨A0, n0, c0, A1, n1, c1, rfl, rfl⟩ := ha.form
  have hwL : Below w.heap.size w ((w.alloc (.cells #[.slice A0 n0 c0, .slice A1 n1 c1] 30)).alloc (.cells #[.slice none 0 0, .slice none 0 0, .slice none 0 0] 34)) := below_alloc (Nat.le_refl _) (below_alloc (Nat.le_refl _) (Below.refl _ _))
  have bxL := (Box.new w 30 #[.slice A0 n0 c0, .slice A1 n1 c1]).alloc (.cells #[.slice none 0 0, .slice none 0 0, .slice none 0 0] 34)
  have brL : Box ((w.alloc (.cells #[.slice A0 n0 c0, .slice A1 n1 c1] 30)).alloc (.cells #[.slice none 0 0, .slice none 0 0, .slice none 0 0] 34)) (w.heap.size + 1) 34 #[.slice none 0 0, .slice none 0 0, .slice none 0 0] := Box.new' (by simp)
  have hsL : w.heap.size + 2 = ((w.alloc (.cells #[.slice A0 n0 c0, .slice A1 n1 c1] 30)).alloc (.cells #[.slice none 0 0, .slice none 0 0, .slice none 0 0] 34)).heap.size := by simp
  have q0 := bxL.d0; have q1 := bxL.d1
  cases hok : okA z.1 z.2 0 s with
  | false =>
    go_enter Try.func10, Try.ntmps10
    go_wp2_with fail
    generalize ((w.alloc (.cells #[.slice A0 n0 c0, .slice A1 n1 c1] 30)).alloc (.cells #[.slice none 0 0, .slice none 0 0, .slice none 0 0] 34)) = W at *
    replace hsL : w.heap.size + 2 ≤ W.heap.size := by omega
    go_wp2_with (first
      | (go_at_call 22
         refine (canAttract _ _ _ _ _ _ _ _ _ _ _ _ s _ _ (Nat.le_refl _) (ha.ri.keep (keeps_below hwL)) (ha.rii.keep (keeps_below hwL)) (hs.keep (keeps_below hwL))).mono ?_
         rintro e wa ⟨rfl, hba⟩
         rw [hok]
         have hsa := hba.size
         have bxa := bxL.below hba (by omega)
         have bra := brL.below hba (by omega)
         have g0 := bxa.d0
         have g1 := bxa.d1
         obtain ⟨e0, e1, e2⟩ := bra.e2m
         have f0 := bra.hot 0
         have f1 := bra.hot 1
         have f2 := bra.hot 2
         have hwa : Below w.heap.size w wa := hwL.trans (hba.mono (by omega))))
    have ch := Chg.set3 wa (w.heap.size + 1) (.slice none 0 0) (.slice none 0 0) (.slice none 0 0)
    have bF := bra.set3 (.slice none 0 0) (.slice none 0 0) (.slice none 0 0)
    obtain ⟨R0, R1, R2⟩ := bF.e2m
    have hwF := hwa.trans (ch.below (B := w.heap.size) (by omega) (fun b hb => by omega))
    exact bodyPost_ret (v := .agg #[.slice none 0 0, .slice none 0 0, .slice none 0 0]) (by simp [results, Try.results10, go_sem, R0, R1, R2]) rfl ⟨_, _, _, rfl, by rw [← HG.out, oftenG_no hok]; exact OPar.nil _ _, hwF.mono hB⟩
  | true =>
    have HF := Lib.hid (okA_parts hok)
    have HQ := Lib.hid ((oftenG_yes (a := 0) (b := 1) hok).symm.trans HG.out)
    go_enter Try.func10, Try.ntmps10
    go_wp2_with fail
    generalize ((w.alloc (.cells #[.slice A0 n0 c0, .slice A1 n1 c1] 30)).alloc (.cells #[.slice none 0 0, .slice none 0 0, .slice none 0 0] 34)) = W at *
    replace hsL : w.heap.size + 2 ≤ W.heap.size := by omega
    go_wp2_with (first
      | (go_at_call 22
         refine (canAttract _ _ _ _ _ _ _ _ _ _ _ _ s _ _ (Nat.le_refl _) (ha.ri.keep (keeps_below hwL)) (ha.rii.keep (keeps_below hwL)) (hs.keep (keeps_below hwL))).mono ?_
         rintro e wa ⟨rfl, hba⟩
         rw [hok]
         have hsa := hba.size
         have bxa := bxL.below hba (by omega)
         have bra := brL.below hba (by omega)
         have g0 := bxa.d0
         have g1 := bxa.d1
         obtain ⟨e0, e1, e2⟩ := bra.e2m
         have f0 := bra.hot 0
         have f1 := bra.hot 1
         have f2 := bra.hot 2
         have hwa : Below w.heap.size w wa := hwL.trans (hba.mono (by omega)))
      | (go_at_call 23
         refine (markedGame _ _ _ _ _ z s 0 1 _ _ (Nat.le_refl _) (ha.keep (keeps_below hwa)) (hs.keep (keeps_below hwa)) (fineAr_of HF.out.1) HF.out.2.2).mono ?_
         rintro e w1 ⟨t0, t1, t2, rfl, ho1, hb1⟩
         rw [HQ.out] at ho1
         obtain ⟨X0, d0, X1, d1, X2, d2, rfl, rfl, rfl⟩ := ho1.form
         have br1 := bra.below hb1 (by omega)
         have hs1 := hb1.size
         obtain ⟨e0, e1, e2⟩ := br1.e2m
         have f0 := br1.hot 0
         have f1 := br1.hot 1
         have f2 := br1.hot 2
         have hw1 : Below w.heap.size w w1 := hwa.trans (hb1.mono (by omega))))
    have ch := Chg.set3 w1 (w.heap.size + 1) (.slice X0 G.1.length d0) (.slice X1 G.2.1.length d1) (.slice X2 G.2.2.length d2)
    have bF := br1.set3 (.slice X0 G.1.length d0) (.slice X1 G.2.1.length d1) (.slice X2 G.2.2.length d2)
    obtain ⟨R0, R1, R2⟩ := bF.e2m
    have hwF := hw1.trans (ch.below (B := w.heap.size) (by omega) (fun b hb => by omega))
    have fin := ho1.chg ch (fun b hb => by omega)
    exact bodyPost_ret (v := .agg #[.slice X0 G.1.length d0, .slice X1 G.2.1.length d1, .slice X2 G.2.2.length d2]) (by simp [results, Try.results10, go_sem, R0, R1, R2]) rfl ⟨_, _, _, rfl, fin.more (by omega), hwF.mono hB⟩

end Go.Proofs.Ytblmcmccdeelgaa
namespace Go.Proofs.Ytblmcmccdeelgaa
open Go.RowKit

theorem twoH_1_2 {P : Program} {Q : Exit → Act → World → Prop} {md : Region.Mode} {S : World → Prop} {fuel : Nat} {listed : Array Bool} {a : Act} {w : World} {o0 o1 o2 : Oper} {r : List Oper} (hr : Region.ready md (List.toArray (o0 :: o1 :: o2 :: r)) listed = [1, 2])
    (h1 : ∀ K' : Act → World → Prop, Shut (∀ a w, S w → (S w → wpAnyH P md (List.toArray (o0 :: o1 :: o2 :: r)) Q S fuel (listed.setIfInBounds 1 true) a w) → K' a w) → if Region.wanted o1 (yielded (List.toArray (o0 :: o1 :: o2 :: r)) a.tmps) = true then Oper.wp P o1 a w K' Q else K' (a.put o1.dst undef) w) (h2 : ∀ K' : Act → World → Prop, Shut (∀ a w, S w → (S w → wpAnyH P md (List.toArray (o0 :: o1 :: o2 :: r)) Q S fuel (listed.setIfInBounds 2 true) a w) → K' a w) → if Region.wanted o2 (yielded (List.toArray (o0 :: o1 :: o2 :: r)) a.tmps) = true then Oper.wp P o2 a w K' Q else K' (a.put o2.dst undef) w) : wpAnyH P md (List.toArray (o0 :: o1 :: o2 :: r)) Q S (fuel + 1) listed a w :=
  wpAnyH_ready (rs := [1, 2]) hr (by simp) (AllReadyH.cons rfl h1 (AllReadyH.cons rfl h2 AllReadyH.nil))
theorem twoH_1_8 {P : Program} {Q : Exit → Act → World → Prop} {md : Region.Mode} {S : World → Prop} {fuel : Nat} {listed : Array Bool} {a : Act} {w : World} {o0 o1 o2 o3 o4 o5 o6 o7 o8 : Oper} {r : List Oper} (hr : Region.ready md (List.toArray (o0 :: o1 :: o2 :: o3 :: o4 :: o5 :: o6 :: o7 :: o8 :: r)) listed = [1, 8])
    (h1 : ∀ K' : Act → World → Prop, Shut (∀ a w, S w → (S w → wpAnyH P md (List.toArray (o0 :: o1 :: o2 :: o3 :: o4 :: o5 :: o6 :: o7 :: o8 :: r)) Q S fuel (listed.setIfInBounds 1 true) a w) → K' a w) → if Region.wanted o1 (yielded (List.toArray (o0 :: o1 :: o2 :: o3 :: o4 :: o5 :: o6 :: o7 :: o8 :: r)) a.tmps) = true then Oper.wp P o1 a w K' Q else K' (a.put o1.dst undef) w) (h2 : ∀ K' : Act → World → Prop, Shut (∀ a w, S w → (S w → wpAnyH P md (List.toArray (o0 :: o1 :: o2 :: o3 :: o4 :: o5 :: o6 :: o7 :: o8 :: r)) Q S fuel (listed.setIfInBounds 8 true) a w) → K' a w) → if Region.wanted o8 (yielded (List.toArray (o0 :: o1 :: o2 :: o3 :: o4 :: o5 :: o6 :: o7 :: o8 :: r)) a.tmps) = true then Oper.wp P o8 a w K' Q else K' (a.put o8.dst undef) w) : wpAnyH P md (List.toArray (o0 :: o1 :: o2 :: o3 :: o4 :: o5 :: o6 :: o7 :: o8 :: r)) Q S (fuel + 1) listed a w :=
  wpAnyH_ready (rs := [1, 8]) hr (by simp) (AllReadyH.cons rfl h1 (AllReadyH.cons rfl h2 AllReadyH.nil))
theorem twoH_1_9 {P : Program} {Q : Exit → Act → World → Prop} {md : Region.Mode} {S : World → Prop} {fuel : Nat} {listed : Array Bool} {a : Act} {w : World} {o0 o1 o2 o3 o4 o5 o6 o7 o8 o9 : Oper} {r : List Oper} (hr : Region.ready md (List.toArray (o0 :: o1 :: o2 :: o3 :: o4 :: o5 :: o6 :: o7 :: o8 :: o9 :: r)) listed = [1, 9])
    (h1 : ∀ K' : Act → World → Prop, Shut (∀ a w, S w → (S w → wpAnyH P md (List.toArray (o0 :: o1 :: o2 :: o3 :: o4 :: o5 :: o6 :: o7 :: o8 :: o9 :: r)) Q S fuel (listed.setIfInBounds 1 true) a w) → K' a w) → if Region.wanted o1 (yielded (List.toArray (o0 :: o1 :: o2 :: o3 :: o4 :: o5 :: o6 :: o7 :: o8 :: o9 :: r)) a.tmps) = true then Oper.wp P o1 a w K' Q else K' (a.put o1.dst undef) w) (h2 : ∀ K' : Act → World → Prop, Shut (∀ a w, S w → (S w → wpAnyH P md (List.toArray (o0 :: o1 :: o2 :: o3 :: o4 :: o5 :: o6 :: o7 :: o8 :: o9 :: r)) Q S fuel (listed.setIfInBounds 9 true) a w) → K' a w) → if Region.wanted o9 (yielded (List.toArray (o0 :: o1 :: o2 :: o3 :: o4 :: o5 :: o6 :: o7 :: o8 :: o9 :: r)) a.tmps) = true then Oper.wp P o9 a w K' Q else K' (a.put o9.dst undef) w) : wpAnyH P md (List.toArray (o0 :: o1 :: o2 :: o3 :: o4 :: o5 :: o6 :: o7 :: o8 :: o9 :: r)) Q S (fuel + 1) listed a w :=
  wpAnyH_ready (rs := [1, 9]) hr (by simp) (AllReadyH.cons rfl h1 (AllReadyH.cons rfl h2 AllReadyH.nil))
set_option maxRecDepth 100000 in
set_option maxHeartbeats 1600000 in
theorem w6Copy (s0 s1 : Value) (z : ArD) (w : World) (B : Nat) (hB : B ≤ w.heap.size) (ha : RAv w s0 s1 z.1 z.2) (hf : fineAr z.1 z.2) :
    Calls Try.prog 9 #[.agg #[s0, s1]] w fun e w' => ∃ t0 t1, e = .returned (.agg #[t0, t1]) ∧ OArn w' B t0 t1 z ∧ Below B w w' := by
  obtain ⟨A0, n0, c0, A1, n1, c1, rfl, rfl⟩ := ha.form
  have hr := ha.ri; have hrr := ha.rii
  have b1 := hrr.cap; have b2 := hrr.top
  have HL := Lib.hid hr.len; have HM := Lib.hid hrr.len
  have hn0 : n0 ≤ 1048576 := by have := hf.2.1; rw [HL.out] at this; omega
  have hn1 : n1 ≤ 1048576 := by have := hf.2.2.1; rw [HM.out, HL.out] at this; omega
  have hle : ∀ i, i < n1 → (gl z.2 i).length ≤ 1048576 := fun i hi => by
    have h3 := hf.2.2.1
    have := (hf.2.2.2 i (by rw [← h3, HM.out]; exact hi)).2.1.2
    omega
  have HLE := Lib.hid hle
  clear hle hf
  have hwL : Below w.heap.size w ((w.alloc (.cells #[.slice A0 n0 c0, .slice A1 n1 c1] 30)).alloc (.cells #[.slice none 0 0, .slice none 0 0] 30)) := below_alloc (Nat.le_refl _) (below_alloc (Nat.le_refl _) (Below.refl _ _))
  have bxL := (Box.new w 30 #[.slice A0 n0 c0, .slice A1 n1 c1]).alloc (.cells #[.slice none 0 0, .slice none 0 0] 30)
  have brL : Box ((w.alloc (.cells #[.slice A0 n0 c0, .slice A1 n1 c1] 30)).alloc (.cells #[.slice none 0 0, .slice none 0 0] 30)) (w.heap.size + 1) 30 #[.slice none 0 0, .slice none 0 0] := Box.new' (by simp)
  have hsL : w.heap.size + 2 = ((w.alloc (.cells #[.slice A0 n0 c0, .slice A1 n1 c1] 30)).alloc (.cells #[.slice none 0 0, .slice none 0 0] 30)).heap.size := by simp
  have q0 := bxL.d0; have q1 := bxL.d1
  go_enter Try.func9, Try.ntmps9
  go_wp2_with fail
  generalize ((w.alloc (.cells #[.slice A0 n0 c0, .slice A1 n1 c1] 30)).alloc (.cells #[.slice none 0 0, .slice none 0 0] 30)) = W at *
  have HsL := Lib.hid hsL
  replace hsL : w.heap.size + 2 ≤ W.heap.size := by omega
  have hem := OI.empty (E := 2) (w := W) (B := W.heap.size) (Nat.le_refl _)
  have hbE : Below W.heap.size W (W.alloc (.cells #[] 2)) := below_alloc (Nat.le_refl _) (Below.refl _ _)
  have q0' : (W.alloc (.cells #[] 2)).cell? ⟨w.heap.size, 0, none⟩ = some (.slice A0 n0 c0) := keepA q0
  go_wp2_with (at_builtin; refine wpList_appI rfl (.tmp 5) (.tmp 7) rfl _ W.heap.size _ [] rfl hem _ _ _ z.1 rfl ((hr.keep (keeps_below hwL)).keep (keeps_below hbE)) (by simp) (by omega) (by simp) ?_; intro v0 w1 ho1 hb1' hc1 hat1; have hb1 := hbE.trans hb1'; try rw [List.nil_append] at ho1; obtain ⟨Av0, cv0, rfl⟩ := ho1.form; have hs1 := hb1.size; have bx1 := bxL.below hb1 (by omega); have br1 := brL.below hb1 (by omega))
  clear hem hbE q0' hb1' hc1 hat1
  go_loopw [4] (fun i wr => ∃ (k : Nat) (v1 : Value) (L : List (List Int)), k ≤ n1 ∧ i = .int .i64 k ∧ L = z.2.take k ∧ OArn wr (w1.heap.size + 1) (.slice none 0 0) v1 ([], L) ∧ Box wr w1.heap.size 30 #[.slice Av0 z.1.length cv0, v1] ∧ Below w1.heap.size w1 wr ∧ w1.heap.size + 1 ≤ wr.heap.size) (fun i _ => n1 - (intOf i).toNat)
  case atStart => exact ⟨0, _, [], Nat.zero_le _, rfl, rfl, OArn.nil _ _, Box.new _ _ _, below_alloc (Nat.le_refl _) (Below.refl _ _), by simp⟩
  case round =>
    obtain ⟨k, v1, L, hk, rfl, hLk, ho, bR, hbr, hsr⟩ := hrel
    have HLk := Lib.hid hLk
    have hlen : L.length ≤ 4194304 := by rw [hLk, List.length_take, HM.out]; omega
    clear hLk
    obtain ⟨A3, c3, Av, cv, h0e, rfl⟩ := ho.form
    clear h0e
    have bX := bx1.below hbr (by omega)
    have g0 := bX.d0
    have g1 := bX.d1
    by_cases hlt : k < n1
    · obtain ⟨bb, off, A4, n4, c4, rfl, hc, r4⟩ := (ha.rii.keep (keeps_below ((hwL.trans (hb1.mono (by omega))).trans (hbr.mono (by omega))))).at_ hlt
      have hbb : bb < w.heap.size := by
        obtain ⟨bb', off', A4', n4', c4', e', hc', _⟩ := ha.rii.at_ hlt
        injection e' with e'
        injection e' with e2 e3
        subst e2
        simpa using World.block_lt_of_cell? w _ hc'
      have hl4 : n4 ≤ 1048576 := by have := HLE.out k hlt; rw [r4.len] at this; exact this
      have p0 := bR.d0
      have p1 := bR.d1
      have hX := Lib.hid (take_gl (xs := z.2) (k := k) (by rw [HM.out]; exact hlt))
      go_wp2_with fail
      refine wp_region_held_drew (S := fun w' => w'.cell? ⟨w.heap.size, 1, none⟩ = some (.slice (some ⟨bb, off, none⟩) n1 c1) ∧ w'.cell? ⟨bb, off + k, none⟩ = some (.slice A4 n4 c4)) (by kernel_rfl) ⟨g1, hc⟩ (fun hHeld => ?_)
      have hdr : Below wr.heap.size wr wr.drew := Below.drew (Below.refl _ _)
      have hrD := r4.keep (keeps_below hdr)
      replace bX : Box wr.drew _ _ _ := bX
      replace bR : Box wr.drew _ _ _ := bR
      replace g1 : wr.drew.cell? _ = some _ := g1
      replace hc : wr.drew.cell? _ = some _ := hc
      replace ho := ho.below hdr
      replace hbr : Below _ _ wr.drew := Below.drew hbr
      replace hsr : w1.heap.size + 1 ≤ wr.drew.heap.size := hsr
      clear hdr p0 p1 g0 r4
      generalize wr.drew = wD at *
      have k1 := bR.d1
      have hem := OI.empty (E := 2) (w := wD) (B := wD.heap.size) (Nat.le_refl _)
      have hbE : Below wD.heap.size wD (wD.alloc (.cells #[] 2)) := below_alloc (Nat.le_refl _) (Below.refl _ _)
      have k1' : ∀ o, (wD.alloc o).cell? ⟨w1.heap.size, 1, none⟩ = some (.slice Av L.length cv) := fun o => keepA k1
      have hrE := hrD.keep (keeps_below hbE)
      refine takeH0 (v := ?_) (by kernel_rfl) (by kernel_rfl) (by kernel_rfl) (fun _ _ _ h => h) hHeld (by rfl) ?_ ?_
      rotate_left; · (intro w hSw; (try dsimp only at hSw); go_simp; try with_reducible rfl)
      try simp only [Act.put, List.setIfInBounds_toArray, List.set_cons_zero, List.set_cons_succ]
      refine takeH3 (v := ?_) (by kernel_rfl) (by kernel_rfl) (by kernel_rfl) (fun _ _ _ h => h) hHeld (by rfl) ?_ ?_
      rotate_left; · (intro w hSw; (try dsimp only at hSw); go_simp; try with_reducible rfl)
      try simp only [Act.put, List.setIfInBounds_toArray, List.set_cons_zero, List.set_cons_succ]
      refine takeH4 (v := ?_) (by kernel_rfl) (by kernel_rfl) (by kernel_rfl) (fun _ _ _ h => h) hHeld (by rfl) ?_ ?_
      rotate_left; · (intro w hSw; (try dsimp only at hSw); go_simp; try with_reducible rfl)
      try simp only [Act.put, List.setIfInBounds_toArray, List.set_cons_zero, List.set_cons_succ]
      refine takeH5 (v := ?_) (by kernel_rfl) (by kernel_rfl) (by kernel_rfl) (fun _ _ _ h => h) hHeld (by rfl) ?_ ?_
      rotate_left; · (intro w hSw; (try dsimp only at hSw); go_simp; try with_reducible rfl)
      try simp only [Act.put, List.setIfInBounds_toArray, List.set_cons_zero, List.set_cons_succ]
      refine takeH6 (v := ?_) (by kernel_rfl) (by kernel_rfl) (by kernel_rfl) (fun _ _ _ h => h) hHeld (by rfl) ?_ ?_
      rotate_left; · (intro w hSw; (try dsimp only at hSw); go_simp; try with_reducible rfl)
      try simp only [Act.put, List.setIfInBounds_toArray, List.set_cons_zero, List.set_cons_succ]
      refine takeH7 (v := ?_) (by kernel_rfl) (by kernel_rfl) (by kernel_rfl) (fun _ _ _ h => h) hHeld (by rfl) ?_ ?_
      rotate_left; · (intro w hSw; (try dsimp only at hSw); go_simp; try with_reducible rfl)
      try simp only [Act.put, List.setIfInBounds_toArray, List.set_cons_zero, List.set_cons_succ]
      refine twoH_1_2 (by kernel_rfl) (fun K hK => ?_) (fun K hK => ?_)
      · go_simp
        refine hK.out _ _ (⟨g1, hc⟩) (fun hHeld => ?_)
        clear hK K
        try simp only [Act.put, List.setIfInBounds_toArray, List.set_cons_zero, List.set_cons_succ]
        refine callH2 (by kernel_rfl) (fun K hK => ?_)
        go_simp
        refine hK.out _ _ (⟨keepA g1, keepA hc⟩) (fun hHeld => ?_)
        clear hK K
        try simp only [Act.put, List.setIfInBounds_toArray, List.set_cons_zero, List.set_cons_succ]
        refine callH8 (by kernel_rfl) (fun K hK => ?_)
        refine step_of_list (by rfl) (wp_appI (.tmp 19) (.tmp 24) (by rfl) (wD.alloc (.cells #[] 2)) wD.heap.size (.slice (some ⟨wD.heap.size, 0, none⟩) 0 0) [] (by rfl) hem A4 n4 c4 (gl z.2 k) (by rfl) hrE (by simp) (by omega) hbE.size ?_)
        intro u2 w2 ho2 hb2' hc2 hat2
        rw [List.nil_append] at ho2
        obtain ⟨Au, cu, rfl⟩ := ho2.form
        have hb2 : Below wD.heap.size wD w2 := hbE.trans hb2'
        have bX2 := bX.below hb2 (by omega)
        have bR2 := bR.below hb2 (by omega)
        have S1 : w2.cell? ⟨w.heap.size, 1, none⟩ = some (.slice (some ⟨bb, off, none⟩) n1 c1) := bX2.d1
        have S2 : w2.cell? ⟨bb, off + k, none⟩ = some (.slice A4 n4 c4) := (hb2.cell (by show bb < _; omega)).trans hc
        have k2 := bR2.d1
        have k2' : ∀ o, (w2.alloc o).cell? ⟨w1.heap.size, 1, none⟩ = some (.slice Av L.length cv) := fun o => keepA k2
        refine hK.out _ _ (⟨S1, S2⟩) (fun hHeld => ?_)
        clear hK K
        try simp only [Act.put, List.setIfInBounds_toArray, List.set_cons_zero, List.set_cons_succ]
        refine callH9 (by kernel_rfl) (fun K hK => ?_)
        go_simp
        refine hK.out _ _ (⟨keepA S1, keepA S2⟩) (fun hHeld => ?_)
        clear hK K
        try simp only [Act.put, List.setIfInBounds_toArray, List.set_cons_zero, List.set_cons_succ]
        refine callH10 (by kernel_rfl) (fun K hK => ?_)
        refine step_of_list (by rfl) (wp_pushN (.tmp 18) (.tmp 26) (by rfl) wD w2 (w1.heap.size + 1) (.slice none 0 0) (.slice Av L.length cv) ([], L) (.slice Au (gl z.2 k).length cu) (gl z.2 k) (by rfl) (by rfl) hsr ho hb2 ho2 hlen ?_)
        intro v3 w3 ho3 hb3 hc3 hat3
        obtain ⟨_, _, Av3, cv3, h0e3, h1e3⟩ := ho3.form
        clear h0e3 hat3
        have h1e : v3 = .slice Av3 (L.length + 1) cv3 := by rw [h1e3]; simp
        subst h1e
        clear h1e3
        have bX3 := bX2.below hb3 (by omega)
        have bR3 := bR2.below hb3 (by omega)
        have S31 : w3.cell? ⟨w.heap.size, 1, none⟩ = some (.slice (some ⟨bb, off, none⟩) n1 c1) := bX3.d1
        have S32 : w3.cell? ⟨bb, off + k, none⟩ = some (.slice A4 n4 c4) := (hb3.cell (by show bb < _; omega)).trans S2
        have T1 := bR3.d1
        have F1 := bR3.hot 1
        refine hK.out _ _ (⟨S31, S32⟩) (fun hHeld => ?_)
        clear hK K
        try simp only [Act.put, List.setIfInBounds_toArray, List.set_cons_zero, List.set_cons_succ]
        refine takeH11 (v := ?_) (by kernel_rfl) (by kernel_rfl) (by kernel_rfl) (fun _ _ _ h => h) hHeld (by rfl) ?_ ?_
        rotate_left; · (intro w hSw; (try dsimp only at hSw); go_simp; try with_reducible rfl)
        try simp only [Act.put, List.setIfInBounds_toArray, List.set_cons_zero, List.set_cons_succ]
        refine callH12 (by kernel_rfl) (fun K hK => ?_)
        go_simp
        refine hK.out _ _ (⟨keepS S31 (by show w.heap.size ≠ w1.heap.size; omega), keepS S32 (by show bb ≠ w1.heap.size; omega)⟩) (fun hHeld => ?_)
        clear hK K
        try simp only [Act.put, List.setIfInBounds_toArray, List.set_cons_zero, List.set_cons_succ]
        refine wpAnyH_done (by kernel_rfl) ?_ _
        have ch : Chg (fun b => b = w1.heap.size) w3 (w3.setCell ⟨w1.heap.size, 1, none⟩ (.slice Av3 (L.length + 1) cv3)) := Chg.set (w := w3) ⟨w1.heap.size, 1, none⟩ (.slice Av3 (L.length + 1) cv3)
        have bF : Box (w3.setCell ⟨w1.heap.size, 1, none⟩ (.slice Av3 (L.length + 1) cv3)) w1.heap.size 30 #[.slice Av0 z.1.length cv0, .slice Av3 (L.length + 1) cv3] := bR3.set_ 1 (.slice Av3 (L.length + 1) cv3)
        have hs2 := hb2.size
        have hs3 := hb3.size
        have hbF : Below w1.heap.size w1 (w3.setCell ⟨w1.heap.size, 1, none⟩ (.slice Av3 (L.length + 1) cv3)) := (hbr.trans ((hb2.mono (by omega)).trans (hb3.mono (by omega)))).trans (ch.below (by omega) (fun b hb => by omega))
        have fin : OArn (w3.setCell ⟨w1.heap.size, 1, none⟩ (.slice Av3 (L.length + 1) cv3)) (w1.heap.size + 1) (.slice none 0 0) (.slice Av3 (L.length + 1) cv3) ([], L ++ [gl z.2 k]) := by have h := ho3.chg ch (fun b hb => by omega); simpa using h
        have hsF := ch.size
        go_wp2
        go_roundw
        case rel => exact ⟨k + 1, _, _, by omega, by go_num, by rw [hX.out, ← HLk.out], fin, bF, hbF, by omega⟩
        case measure => simp [intOf]; omega
      · go_simp
        refine hK.out _ _ (⟨keepA g1, keepA hc⟩) (fun hHeld => ?_)
        clear hK K
        try simp only [Act.put, List.setIfInBounds_toArray, List.set_cons_zero, List.set_cons_succ]
        refine twoH_1_8 (by kernel_rfl) (fun K hK => ?_) (fun K hK => ?_)
        · go_simp
          refine hK.out _ _ (⟨keepA g1, keepA hc⟩) (fun hHeld => ?_)
          clear hK K
          try simp only [Act.put, List.setIfInBounds_toArray, List.set_cons_zero, List.set_cons_succ]
          refine callH8 (by kernel_rfl) (fun K hK => ?_)
          refine step_of_list (by rfl) (wp_appI (.tmp 19) (.tmp 24) (by rfl) (wD.alloc (.cells #[] 2)) wD.heap.size (.slice (some ⟨wD.heap.size, 0, none⟩) 0 0) [] (by rfl) hem A4 n4 c4 (gl z.2 k) (by rfl) hrE (by simp) (by omega) hbE.size ?_)
          intro u2 w2 ho2 hb2' hc2 hat2
          rw [List.nil_append] at ho2
          obtain ⟨Au, cu, rfl⟩ := ho2.form
          have hb2 : Below wD.heap.size wD w2 := hbE.trans hb2'
          have bX2 := bX.below hb2 (by omega)
          have bR2 := bR.below hb2 (by omega)
          have S1 : w2.cell? ⟨w.heap.size, 1, none⟩ = some (.slice (some ⟨bb, off, none⟩) n1 c1) := bX2.d1
          have S2 : w2.cell? ⟨bb, off + k, none⟩ = some (.slice A4 n4 c4) := (hb2.cell (by show bb < _; omega)).trans hc
          have k2 := bR2.d1
          have k2' : ∀ o, (w2.alloc o).cell? ⟨w1.heap.size, 1, none⟩ = some (.slice Av L.length cv) := fun o => keepA k2
          refine hK.out _ _ (⟨S1, S2⟩) (fun hHeld => ?_)
          clear hK K
          try simp only [Act.put, List.setIfInBounds_toArray, List.set_cons_zero, List.set_cons_succ]
          refine callH9 (by kernel_rfl) (fun K hK => ?_)
          go_simp
          refine hK.out _ _ (⟨keepA S1, keepA S2⟩) (fun hHeld => ?_)
          clear hK K
          try simp only [Act.put, List.setIfInBounds_toArray, List.set_cons_zero, List.set_cons_succ]
          refine callH10 (by kernel_rfl) (fun K hK => ?_)
          refine step_of_list (by rfl) (wp_pushN (.tmp 18) (.tmp 26) (by rfl) wD w2 (w1.heap.size + 1) (.slice none 0 0) (.slice Av L.length cv) ([], L) (.slice Au (gl z.2 k).length cu) (gl z.2 k) (by rfl) (by rfl) hsr ho hb2 ho2 hlen ?_)
          intro v3 w3 ho3 hb3 hc3 hat3
          obtain ⟨_, _, Av3, cv3, h0e3, h1e3⟩ := ho3.form
          clear h0e3 hat3
          have h1e : v3 = .slice Av3 (L.length + 1) cv3 := by rw [h1e3]; simp
          subst h1e
          clear h1e3
          have bX3 := bX2.below hb3 (by omega)
          have bR3 := bR2.below hb3 (by omega)
          have S31 : w3.cell? ⟨w.heap.size, 1, none⟩ = some (.slice (some ⟨bb, off, none⟩) n1 c1) := bX3.d1
          have S32 : w3.cell? ⟨bb, off + k, none⟩ = some (.slice A4 n4 c4) := (hb3.cell (by show bb < _; omega)).trans S2
          have T1 := bR3.d1
          have F1 := bR3.hot 1
          refine hK.out _ _ (⟨S31, S32⟩) (fun hHeld => ?_)
          clear hK K
          try simp only [Act.put, List.setIfInBounds_toArray, List.set_cons_zero, List.set_cons_succ]
          refine takeH11 (v := ?_) (by kernel_rfl) (by kernel_rfl) (by kernel_rfl) (fun _ _ _ h => h) hHeld (by rfl) ?_ ?_
          rotate_left; · (intro w hSw; (try dsimp only at hSw); go_simp; try with_reducible rfl)
          try simp only [Act.put, List.setIfInBounds_toArray, List.set_cons_zero, List.set_cons_succ]
          refine callH12 (by kernel_rfl) (fun K hK => ?_)
          go_simp
          refine hK.out _ _ (⟨keepS S31 (by show w.heap.size ≠ w1.heap.size; omega), keepS S32 (by show bb ≠ w1.heap.size; omega)⟩) (fun hHeld => ?_)
          clear hK K
          try simp only [Act.put, List.setIfInBounds_toArray, List.set_cons_zero, List.set_cons_succ]
          refine wpAnyH_done (by kernel_rfl) ?_ _
          have ch : Chg (fun b => b = w1.heap.size) w3 (w3.setCell ⟨w1.heap.size, 1, none⟩ (.slice Av3 (L.length + 1) cv3)) := Chg.set (w := w3) ⟨w1.heap.size, 1, none⟩ (.slice Av3 (L.length + 1) cv3)
          have bF : Box (w3.setCell ⟨w1.heap.size, 1, none⟩ (.slice Av3 (L.length + 1) cv3)) w1.heap.size 30 #[.slice Av0 z.1.length cv0, .slice Av3 (L.length + 1) cv3] := bR3.set_ 1 (.slice Av3 (L.length + 1) cv3)
          have hs2 := hb2.size
          have hs3 := hb3.size
          have hbF : Below w1.heap.size w1 (w3.setCell ⟨w1.heap.size, 1, none⟩ (.slice Av3 (L.length + 1) cv3)) := (hbr.trans ((hb2.mono (by omega)).trans (hb3.mono (by omega)))).trans (ch.below (by omega) (fun b hb => by omega))
          have fin : OArn (w3.setCell ⟨w1.heap.size, 1, none⟩ (.slice Av3 (L.length + 1) cv3)) (w1.heap.size + 1) (.slice none 0 0) (.slice Av3 (L.length + 1) cv3) ([], L ++ [gl z.2 k]) := by have h := ho3.chg ch (fun b hb => by omega); simpa using h
          have hsF := ch.size
          go_wp2
          go_roundw
          case rel => exact ⟨k + 1, _, _, by omega, by go_num, by rw [hX.out, ← HLk.out], fin, bF, hbF, by omega⟩
          case measure => simp [intOf]; omega
        · refine step_of_list (by rfl) (wp_appI (.tmp 19) (.tmp 24) (by rfl) (wD.alloc (.cells #[] 2)) wD.heap.size (.slice (some ⟨wD.heap.size, 0, none⟩) 0 0) [] (by rfl) hem A4 n4 c4 (gl z.2 k) (by rfl) hrE (by simp) (by omega) hbE.size ?_)
          intro u2 w2 ho2 hb2' hc2 hat2
          rw [List.nil_append] at ho2
          obtain ⟨Au, cu, rfl⟩ := ho2.form
          have hb2 : Below wD.heap.size wD w2 := hbE.trans hb2'
          have bX2 := bX.below hb2 (by omega)
          have bR2 := bR.below hb2 (by omega)
          have S1 : w2.cell? ⟨w.heap.size, 1, none⟩ = some (.slice (some ⟨bb, off, none⟩) n1 c1) := bX2.d1
          have S2 : w2.cell? ⟨bb, off + k, none⟩ = some (.slice A4 n4 c4) := (hb2.cell (by show bb < _; omega)).trans hc
          have k2 := bR2.d1
          have k2' : ∀ o, (w2.alloc o).cell? ⟨w1.heap.size, 1, none⟩ = some (.slice Av L.length cv) := fun o => keepA k2
          refine hK.out _ _ (⟨S1, S2⟩) (fun hHeld => ?_)
          clear hK K
          try simp only [Act.put, List.setIfInBounds_toArray, List.set_cons_zero, List.set_cons_succ]
          refine twoH_1_9 (by kernel_rfl) (fun K hK => ?_) (fun K hK => ?_)
          · go_simp
            refine hK.out _ _ (⟨S1, S2⟩) (fun hHeld => ?_)
            clear hK K
            try simp only [Act.put, List.setIfInBounds_toArray, List.set_cons_zero, List.set_cons_succ]
            refine callH9 (by kernel_rfl) (fun K hK => ?_)
            go_simp
            refine hK.out _ _ (⟨keepA S1, keepA S2⟩) (fun hHeld => ?_)
            clear hK K
            try simp only [Act.put, List.setIfInBounds_toArray, List.set_cons_zero, List.set_cons_succ]
            refine callH10 (by kernel_rfl) (fun K hK => ?_)
            refine step_of_list (by rfl) (wp_pushN (.tmp 18) (.tmp 26) (by rfl) wD w2 (w1.heap.size + 1) (.slice none 0 0) (.slice Av L.length cv) ([], L) (.slice Au (gl z.2 k).length cu) (gl z.2 k) (by rfl) (by rfl) hsr ho hb2 ho2 hlen ?_)
            intro v3 w3 ho3 hb3 hc3 hat3
            obtain ⟨_, _, Av3, cv3, h0e3, h1e3⟩ := ho3.form
            clear h0e3 hat3
            have h1e : v3 = .slice Av3 (L.length + 1) cv3 := by rw [h1e3]; simp
            subst h1e
            clear h1e3
            have bX3 := bX2.below hb3 (by omega)
            have bR3 := bR2.below hb3 (by omega)
            have S31 : w3.cell? ⟨w.heap.size, 1, none⟩ = some (.slice (some ⟨bb, off, none⟩) n1 c1) := bX3.d1
            have S32 : w3.cell? ⟨bb, off + k, none⟩ = some (.slice A4 n4 c4) := (hb3.cell (by show bb < _; omega)).trans S2
            have T1 := bR3.d1
            have F1 := bR3.hot 1
            refine hK.out _ _ (⟨S31, S32⟩) (fun hHeld => ?_)
            clear hK K
            try simp only [Act.put, List.setIfInBounds_toArray, List.set_cons_zero, List.set_cons_succ]
            refine takeH11 (v := ?_) (by kernel_rfl) (by kernel_rfl) (by kernel_rfl) (fun _ _ _ h => h) hHeld (by rfl) ?_ ?_
            rotate_left; · (intro w hSw; (try dsimp only at hSw); go_simp; try with_reducible rfl)
            try simp only [Act.put, List.setIfInBounds_toArray, List.set_cons_zero, List.set_cons_succ]
            refine callH12 (by kernel_rfl) (fun K hK => ?_)
            go_simp
            refine hK.out _ _ (⟨keepS S31 (by show w.heap.size ≠ w1.heap.size; omega), keepS S32 (by show bb ≠ w1.heap.size; omega)⟩) (fun hHeld => ?_)
            clear hK K
            try simp only [Act.put, List.setIfInBounds_toArray, List.set_cons_zero, List.set_cons_succ]
            refine wpAnyH_done (by kernel_rfl) ?_ _
            have ch : Chg (fun b => b = w1.heap.size) w3 (w3.setCell ⟨w1.heap.size, 1, none⟩ (.slice Av3 (L.length + 1) cv3)) := Chg.set (w := w3) ⟨w1.heap.size, 1, none⟩ (.slice Av3 (L.length + 1) cv3)
            have bF : Box (w3.setCell ⟨w1.heap.size, 1, none⟩ (.slice Av3 (L.length + 1) cv3)) w1.heap.size 30 #[.slice Av0 z.1.length cv0, .slice Av3 (L.length + 1) cv3] := bR3.set_ 1 (.slice Av3 (L.length + 1) cv3)
            have hs2 := hb2.size
            have hs3 := hb3.size
            have hbF : Below w1.heap.size w1 (w3.setCell ⟨w1.heap.size, 1, none⟩ (.slice Av3 (L.length + 1) cv3)) := (hbr.trans ((hb2.mono (by omega)).trans (hb3.mono (by omega)))).trans (ch.below (by omega) (fun b hb => by omega))
            have fin : OArn (w3.setCell ⟨w1.heap.size, 1, none⟩ (.slice Av3 (L.length + 1) cv3)) (w1.heap.size + 1) (.slice none 0 0) (.slice Av3 (L.length + 1) cv3) ([], L ++ [gl z.2 k]) := by have h := ho3.chg ch (fun b hb => by omega); simpa using h
            have hsF := ch.size
            go_wp2
            go_roundw
            case rel => exact ⟨k + 1, _, _, by omega, by go_num, by rw [hX.out, ← HLk.out], fin, bF, hbF, by omega⟩
            case measure => simp [intOf]; omega
          · go_simp
            refine hK.out _ _ (⟨keepA S1, keepA S2⟩) (fun hHeld => ?_)
            clear hK K
            try simp only [Act.put, List.setIfInBounds_toArray, List.set_cons_zero, List.set_cons_succ]
            refine callH1 (by kernel_rfl) (fun K hK => ?_)
            go_simp
            refine hK.out _ _ (⟨keepA S1, keepA S2⟩) (fun hHeld => ?_)
            clear hK K
            try simp only [Act.put, List.setIfInBounds_toArray, List.set_cons_zero, List.set_cons_succ]
            refine callH10 (by kernel_rfl) (fun K hK => ?_)
            refine step_of_list (by rfl) (wp_pushN (.tmp 18) (.tmp 26) (by rfl) wD w2 (w1.heap.size + 1) (.slice none 0 0) (.slice Av L.length cv) ([], L) (.slice Au (gl z.2 k).length cu) (gl z.2 k) (by rfl) (by rfl) hsr ho hb2 ho2 hlen ?_)
            intro v3 w3 ho3 hb3 hc3 hat3
            obtain ⟨_, _, Av3, cv3, h0e3, h1e3⟩ := ho3.form
            clear h0e3 hat3
            have h1e : v3 = .slice Av3 (L.length + 1) cv3 := by rw [h1e3]; simp
            subst h1e
            clear h1e3
            have bX3 := bX2.below hb3 (by omega)
            have bR3 := bR2.below hb3 (by omega)
            have S31 : w3.cell? ⟨w.heap.size, 1, none⟩ = some (.slice (some ⟨bb, off, none⟩) n1 c1) := bX3.d1
            have S32 : w3.cell? ⟨bb, off + k, none⟩ = some (.slice A4 n4 c4) := (hb3.cell (by show bb < _; omega)).trans S2
            have T1 := bR3.d1
            have F1 := bR3.hot 1
            refine hK.out _ _ (⟨S31, S32⟩) (fun hHeld => ?_)
            clear hK K
            try simp only [Act.put, List.setIfInBounds_toArray, List.set_cons_zero, List.set_cons_succ]
            refine takeH11 (v := ?_) (by kernel_rfl) (by kernel_rfl) (by kernel_rfl) (fun _ _ _ h => h) hHeld (by rfl) ?_ ?_
            rotate_left; · (intro w hSw; (try dsimp only at hSw); go_simp; try with_reducible rfl)
            try simp only [Act.put, List.setIfInBounds_toArray, List.set_cons_zero, List.set_cons_succ]
            refine callH12 (by kernel_rfl) (fun K hK => ?_)
            go_simp
            refine hK.out _ _ (⟨keepS S31 (by show w.heap.size ≠ w1.heap.size; omega), keepS S32 (by show bb ≠ w1.heap.size; omega)⟩) (fun hHeld => ?_)
            clear hK K
            try simp only [Act.put, List.setIfInBounds_toArray, List.set_cons_zero, List.set_cons_succ]
            refine wpAnyH_done (by kernel_rfl) ?_ _
            have ch : Chg (fun b => b = w1.heap.size) w3 (w3.setCell ⟨w1.heap.size, 1, none⟩ (.slice Av3 (L.length + 1) cv3)) := Chg.set (w := w3) ⟨w1.heap.size, 1, none⟩ (.slice Av3 (L.length + 1) cv3)
            have bF : Box (w3.setCell ⟨w1.heap.size, 1, none⟩ (.slice Av3 (L.length + 1) cv3)) w1.heap.size 30 #[.slice Av0 z.1.length cv0, .slice Av3 (L.length + 1) cv3] := bR3.set_ 1 (.slice Av3 (L.length + 1) cv3)
            have hs2 := hb2.size
            have hs3 := hb3.size
            have hbF : Below w1.heap.size w1 (w3.setCell ⟨w1.heap.size, 1, none⟩ (.slice Av3 (L.length + 1) cv3)) := (hbr.trans ((hb2.mono (by omega)).trans (hb3.mono (by omega)))).trans (ch.below (by omega) (fun b hb => by omega))
            have fin : OArn (w3.setCell ⟨w1.heap.size, 1, none⟩ (.slice Av3 (L.length + 1) cv3)) (w1.heap.size + 1) (.slice none 0 0) (.slice Av3 (L.length + 1) cv3) ([], L ++ [gl z.2 k]) := by have h := ho3.chg ch (fun b hb => by omega); simpa using h
            have hsF := ch.size
            go_wp2
            go_roundw
            case rel => exact ⟨k + 1, _, _, by omega, by go_num, by rw [hX.out, ← HLk.out], fin, bF, hbF, by omega⟩
            case measure => simp [intOf]; omega
    · obtain rfl : k = n1 := by omega
      have HE := Lib.hid (show z.2.take k = z.2 from List.take_of_length_le (by rw [HM.out]; omega))
      have p0 := bR.d0
      have p1 := bR.d1
      have brX := br1.below hbr (by omega)
      have e0 := brX.d0
      have e1 := brX.d1
      have f0 := brX.hot 0
      have f1 := brX.hot 1
      have ch : Chg (fun b => b = w.heap.size + 1) wr ((wr.setCell ⟨w.heap.size + 1, 0, none⟩ (.slice Av0 z.1.length cv0)).setCell ⟨w.heap.size + 1, 1, none⟩ (.slice Av L.length cv)) := (Chg.set (w := wr) ⟨w.heap.size + 1, 0, none⟩ (.slice Av0 z.1.length cv0)).trans (Chg.set ⟨w.heap.size + 1, 1, none⟩ (.slice Av L.length cv)) (U := fun b => b = w.heap.size + 1) (fun _ h => h) (fun _ h => h)
      have bF : Box ((wr.setCell ⟨w.heap.size + 1, 0, none⟩ (.slice Av0 z.1.length cv0)).setCell ⟨w.heap.size + 1, 1, none⟩ (.slice Av L.length cv)) (w.heap.size + 1) 30 #[.slice Av0 z.1.length cv0, .slice Av L.length cv] := (brX.set_ 0 (.slice Av0 z.1.length cv0)).set_ 1 (.slice Av L.length cv)
      have R0 := bF.d0
      have R1 := bF.d1
      have ho0 := (ho1.below hbr).more (lo' := w.heap.size + 2) hsL
      have hoE : OArn wr (w1.heap.size + 1) (.slice none 0 0) (.slice Av L.length cv) ([], z.2) := by rw [← HE.out, ← HLk.out]; exact ho
      have fo : OArn wr (w.heap.size + 2) (.slice Av0 z.1.length cv0) (.slice Av L.length cv) (z.1, z.2) := OArn.join hoE (Far.refl _ _) ho0 (by omega) (fun b hb => .inl (by have := (ho1.lt b hb).2; omega))
      have hwF : Below w.heap.size w ((wr.setCell ⟨w.heap.size + 1, 0, none⟩ (.slice Av0 z.1.length cv0)).setCell ⟨w.heap.size + 1, 1, none⟩ (.slice Av L.length cv)) := ((hwL.trans (hb1.mono (by omega))).trans (hbr.mono (by omega))).trans (ch.below (by omega) (fun b hb => by omega))
      have fin := fo.chg ch (fun b hb => by omega)
      go_wp2
      exact bodyPost_ret (v := .agg #[.slice Av0 z.1.length cv0, .slice Av L.length cv]) (by simp [results, Try.results9, go_sem, R0, R1]) rfl ⟨_, _, rfl, fin.more (by omega), hwF.mono hB⟩
end Go.Proofs.Ytblmcmccdeelgaa
namespace Go.Proofs.Ytblmcmccdeelgaa
open Go.RowKit Go.ChangeShapes Go.WideShapes Go.ChangeAt Go.Deep

section
variable {H : Type} {enc : TypeId × Value → H} {P : Program} {w : World} {base : Nat} {spare : Nat → Bool} {held : Bool}
end
end Go.Proofs.Ytblmcmccdeelgaa
namespace Go.Proofs.Ytblmcmccdeelgaa
open Go.RowKit Go.ChangeShapes Go.WideShapes Go.ChangeAt Go.Deep

theorem ry_of_trod {H : Type} {enc : TypeId × Value → H} {P : Program} {w : World} {base : Nat} {spare : Nat → Bool} {held : Bool} {t e : TypeId} {fuel : Nat} {c : Value} {y : DataW H × List MemPlace}
    (ht : P.underlying t = some (.slice e)) (he : P.underlying e = some (.int .u8)) (hc : P.cellsOf e = 1) (hsp : ∀ b, spare b = true)
    (h : DataW.trod enc P w base spare held fuel t [c] = some y) : ∃ A n k xs, c = .slice A n k ∧ RY w A n k xs := by
  rcases open_ints ht he hc h with ⟨hcs, _⟩ | ⟨x, l, k, zs, hcs, _, hl, hm, hz, _, hcell, hwz⟩
  · injection hcs with h1 _
    exact ⟨none, 0, 0, [], h1, RY.of_nil⟩
  · injection hcs with h1 _
    refine ⟨some x, l, k, zs.take l, h1, RY.of_cells hl hm (by rw [hz, hsp]; rfl) hcell fun z hz => ?_⟩
    have h := hwz z hz
    unfold Lit.wf at h
    rw [Bool.and_eq_true] at h
    have h2 := of_decide_eq_true h.1
    have h3 := of_decide_eq_true h.2
    have e1 : IntKind.u8.min = 0 := rfl
    have e2 : IntKind.u8.max = 255 := rfl
    omega

set_option maxRecDepth 100000 in
theorem big (A : Option Addr) (n c : Nat) (l : List Int) (w : World) (hy : RY w A n c l) :
    Calls Try.prog 4 #[.slice A n c] w fun e w' => e = .returned (.bool (decide (4096 < n))) ∧ Qt w w' := by
  have b1 := hy.cap; have b2 := hy.top
  by_cases hb : 4096 < n
  · have E := Lib.hid (show decide (4096 < n) = true from decide_eq_true hb)
    go_enter Try.func4, Try.ntmps4
    go_wp2
    go_ret
    exact ⟨ret_b (by rw [E.out]; exact decide_eq_true (by omega)), Qt.refl _⟩
  · have E := Lib.hid (show decide (4096 < n) = false from decide_eq_false hb)
    go_enter Try.func4, Try.ntmps4
    go_wp2
    go_ret
    exact ⟨ret_b (by rw [E.out]; exact decide_eq_false (by omega)), Qt.refl _⟩
end Go.Proofs.Ytblmcmccdeelgaa
namespace Go.Proofs.Ytblmcmccdeelgaa
open Go.RowKit

set_option maxRecDepth 100000 in
theorem oftFn (A D : Option Addr) (n0 c d : Nat) (ms : List Bool) (L : List Int) (v u b1 b2 : Nat) (w : World) (h1 : w.cell? ⟨b1, 0, none⟩ = some (.slice D n0 d)) (h2 : w.cell? ⟨b2, 0, none⟩ = some (.slice A n0 c)) (hm : RB w D n0 d ms) (hL : RI w A n0 c L) (hv : v < n0) (hu : u < n0) (hr : ∀ u, -1 ≤ gi L u ∧ gi L u ≤ 256) :
    Calls Try.prog 34 #[.int .i64 (v : Int), .int .i64 (u : Int), .pointer (some ⟨b1, 0, none⟩), .pointer (some ⟨b2, 0, none⟩)] w fun e w' => e = .returned (.bool (oftA ms L v u)) ∧ Below w.heap.size w w' := by
  obtain ⟨bD, oD, rfl, hcD⟩ := hm.at_ hu
  obtain ⟨bA, oA, rfl, hcu⟩ := hL.at_ hu
  obtain ⟨bA2, oA2, hA2, hcv⟩ := hL.at_ hv
  injection hA2 with hA2
  injection hA2 with hA3 hA4
  subst hA3; subst hA4
  have hvi : (v : Int) < (n0 : Int) := by omega
  have hui : (u : Int) < (n0 : Int) := by omega
  have hv0 : (0 : Int) ≤ (v : Int) := by omega
  have hu0 : (0 : Int) ≤ (u : Int) := by omega
  have hrv := hr v
  have e1 : IntKind.i64.wrap (gi L v - 1) = gi L v - 1 := IntWalk.i64_in _ (by omega)
  clear hr
  cases hg : gb ms u with
  | false =>
    have E := Lib.hid (show oftA ms L v u = false by unfold oftA; rw [hg]; rfl)
    rw [hg] at hcD
    clear hg
    go_enter Try.func34, Try.ntmps34
    go_wp2
    go_quiet (fail)
    go_wp2
    go_ret
    exact ⟨ret_b E.out.symm, by repeat (first | with_reducible assumption | with_reducible exact Below.refl _ _ | with_reducible refine below_drewN ?_ _ | with_reducible refine Below.drew ?_ | with_reducible refine below_alloc (Nat.le_refl _) ?_)⟩
  | true =>
    rw [hg] at hcD
    cases h0 : gi L v == 0 with
    | true =>
      have E := Lib.hid (show oftA ms L v u = true by unfold oftA; rw [hg, h0]; rfl)
      clear hg
      go_enter Try.func34, Try.ntmps34
      go_wp2
      go_quiet (fail)
      go_wp2
      go_ret
      exact ⟨ret_b E.out.symm, by repeat (first | with_reducible assumption | with_reducible exact Below.refl _ _ | with_reducible refine below_drewN ?_ _ | with_reducible refine Below.drew ?_ | with_reducible refine below_alloc (Nat.le_refl _) ?_)⟩
    | false =>
      have E := Lib.hid (show oftA ms L v u = (gi L u == gi L v - 1) by unfold oftA; rw [hg, h0]; rfl)
      clear hg
      go_enter Try.func34, Try.ntmps34
      go_wp2
      go_quiet (fail)
      go_wp2
      go_ret
      exact ⟨ret_b E.out.symm, by repeat (first | with_reducible assumption | with_reducible exact Below.refl _ _ | with_reducible refine below_drewN ?_ _ | with_reducible refine Below.drew ?_ | with_reducible refine below_alloc (Nat.le_refl _) ?_)⟩
theorem oftFn_enter (args : Array Value) (w : World) : (callFunc 34 args).run Try.prog w = .ok (.enter 34 args) w := by kernel_rfl

set_option maxRecDepth 100000 in
set_option maxHeartbeats 1600000 in
theorem implOftenPlan (s0 s1 : Value) (z : ArD) (who : Int) (C : Option Addr) (m d : Nat) (s : List Int) (w : World) (B : Nat) (hB : B ≤ w.heap.size) (ha : RAv w s0 s1 z.1 z.2) (hs : RI w C m d s) :
    Calls Try.prog 16 #[.agg #[s0, s1], .int .i64 who, .slice C m d] w fun e w' => ∃ v, e = .returned v ∧ OI 2 w' B v (oftPlanR z.1 z.2 who s) ∧ Below B w w' := by
  have hmf : ∀ (fn : Fn) (first cap : Array Value) (w : World), (Instr.makeFunc fn first cap).run Try.prog w = .ok (.func fn first cap) w := fun _ _ _ _ => rfl
  obtain ⟨A0, n0, c0, A1, n1, c1, rfl, rfl⟩ := ha.form
  have hr := ha.ri; have hrr := ha.rii
  have HL := Lib.hid hr.len
  have hba : Below w.heap.size w (w.alloc (.cells #[.slice A0 n0 c0, .slice A1 n1 c1] 30)) := below_alloc (Nat.le_refl _) (Below.refl _ _)
  have bx := Box.new w 30 #[.slice A0 n0 c0, .slice A1 n1 c1]
  have q0 := bx.d0; have q1 := bx.d1
  cases h : okA z.1 z.2 who s with
  | false =>
    have E := Lib.hid (show oftPlanR z.1 z.2 who s = [] from if_neg (by rw [h]; simp))
    go_enter Try.func16, Try.ntmps16
    go_wp2_with fail
    refine (canAttract _ _ _ _ _ _ _ _ _ _ _ _ _ _ _ (Nat.le_refl _) (hr.keep (keeps_below hba)) (hrr.keep (keeps_below hba)) (hs.keep (keeps_below hba))).mono ?_; rintro e w1 ⟨rfl, hb1'⟩
    have hb1 := below_then hb1' hba.size hba
    go_wp2
    go_ret
    exact ⟨_, rfl, by rw [E.out]; exact OI.nil _ _ _, hb1.mono hB⟩
  | true =>
    have HO := Lib.hid h
    obtain ⟨h1, h2, h3⟩ := okA_parts h
    have HF := Lib.hid (fineAr_of h1)
    have hn0 : n0 ≤ 256 := by have := HF.out.2.1; rw [HL.out] at this; omega
    have hm0 : 0 < n0 := by have := HF.out.1; rw [HL.out] at this; omega
    have HS3 := Lib.hid h3
    have E := Lib.hid (show oftPlanR z.1 z.2 who s = oftPlanL z.1 z.2 who s from if_pos h)
    have HQ := Lib.hid (oftL_set z.1 z.2 who s)
    clear h1 h2 h3
    go_enter Try.func16, Try.ntmps16
    go_wp2_with fail
    refine (canAttract _ _ _ _ _ _ _ _ _ _ _ _ _ _ _ (Nat.le_refl _) (hr.keep (keeps_below hba)) (hrr.keep (keeps_below hba)) (hs.keep (keeps_below hba))).mono ?_; rintro e w1 ⟨rfl, hb1'⟩
    have hw := below_then hb1' hba.size hba
    replace bx := bx.below hb1' bx.lt
    clear q0 q1 hb1'
    have q0 := bx.d0; have q1 := bx.d1
    go_wp2_with fail
    refine (oftenWon _ _ _ _ _ _ _ _ _ _ _ _ _ _ _ (Nat.le_refl _) (hr.keep (keeps_below hw)) (hrr.keep (keeps_below hw)) (hs.keep (keeps_below hw)) HO.out).mono ?_; rintro e w2 ⟨v2, rfl, ho2, hb2⟩
    have hw2 := below_then hb2 hw.size hw
    replace bx := bx.below hb2 bx.lt
    obtain ⟨A2, c2, rfl⟩ := ho2.form
    clear q0 q1
    have q0 := bx.d0; have q1 := bx.d1
    go_wp2_with fail
    refine (markOf _ _ _ _ _ _ _ _ _ (oftL z.1 z.2 who s) _ _ (Nat.le_refl _) ho2.reads (by rw [← HL.out]; exact HQ.out) (by omega)).mono ?_; rintro e w3 ⟨v3, rfl, ho3, hb3⟩
    obtain ⟨A3, c3, rfl⟩ := ho3.form
    rw [mkM_len] at ho3 ⊢
    have hw3 := below_then hb3 hw2.size hw2
    have hbA : Below w3.heap.size w3 (w3.alloc (.cells #[.slice A3 n0 c3] 49)) := below_alloc (Nat.le_refl _) (Below.refl _ _)
    have bm := Box.new w3 49 #[.slice A3 n0 c3]
    have hwA := below_then hbA hw3.size hw3
    replace bx := (bx.below hb3 bx.lt).below hbA (by have := bx.lt; have := hb3.size; omega)
    replace ho2 := (ho2.below hb3).below hbA
    replace ho3 := ho3.below hbA
    clear q0 q1 hb3 hbA
    have q0 := bx.d0; have q1 := bx.d1
    go_wp2_with fail
    refine (ranksIn _ _ _ _ _ _ _ _ _ _ _ _ _ _ _ (oftL z.1 z.2 who s) s _ _ (Nat.le_refl _) (hr.keep (keeps_below hwA)) (hrr.keep (keeps_below hwA)) ho2.reads (hs.keep (keeps_below hwA)) HF.out HQ.out HS3.out).mono ?_; rintro e w5 ⟨v5, rfl, ho5, hb5⟩
    obtain ⟨A5, c5, rfl⟩ := ho5.form
    have hll : (ranksL z.1 z.2 who (oftL z.1 z.2 who s) s).length = n0 := by rw [ranksL_len, HL.out]
    rw [hll] at ho5 ⊢
    have hw5 := below_then hb5 hwA.size hwA
    have hbB : Below w5.heap.size w5 (w5.alloc (.cells #[.slice A5 n0 c5] 27)) := below_alloc (Nat.le_refl _) (Below.refl _ _)
    have bl := Box.new w5 27 #[.slice A5 n0 c5]
    have hwB := below_then hbB hw5.size hw5
    replace bx := (bx.below hb5 bx.lt).below hbB (by have := bx.lt; have := hb5.size; omega)
    replace bm := (bm.below hb5 bm.lt).below hbB (by have := bm.lt; have := hb5.size; omega)
    replace ho3 := (ho3.below hb5).below hbB
    replace ho5 := ho5.below hbB
    clear q0 q1 hb5 hbB
    have q0 := bx.d0; have q1 := bx.d1
    have q2 : (w5.alloc (.cells #[.slice A5 n0 c5] 27)).cell? ⟨w3.heap.size, 0, none⟩ = some (.slice A3 n0 c3) := bm.cell 0
    have HRT := Lib.hid (show ∀ u, -1 ≤ gi (ranksL z.1 z.2 who (oftL z.1 z.2 who s) s) u ∧ gi (ranksL z.1 z.2 who (oftL z.1 z.2 who s) s) u ≤ 256 from fun u => ⟨ranksL_bound _ _ _ _ _ _, by rw [ranksL_eq]; exact rnks_all (by rw [HL.out]; exact hn0) u⟩)
    go_wp2_with fail
    refine (firstMoves (oftA (mkM n0 (oftL z.1 z.2 who s)) (ranksL z.1 z.2 who (oftL z.1 z.2 who s) s)) 34 #[.pointer (some ⟨w3.heap.size, 0, none⟩), .pointer (some ⟨w5.heap.size, 0, none⟩)] A0 A1 A3 n0 c0 n1 c1 n0 c3 z.1 z.2 who (mkM n0 (oftL z.1 z.2 who s)) _ _ (Nat.le_refl _) (hr.keep (keeps_below hwB)) (hrr.keep (keeps_below hwB)) ho3.reads HF.out rfl oftFn_enter
      (fun w' v u hbw hv hu => oftFn A5 A3 n0 c5 c3 _ _ v u w3.heap.size w5.heap.size w' ((bm.below hbw bm.lt).cell 0) ((bl.below hbw bl.lt).cell 0) (ho3.reads.keep (keeps_below hbw)) (ho5.reads.keep (keeps_below hbw)) hv hu HRT.out)).mono ?_
    rintro e w6 ⟨v6, rfl, ho6, hb6⟩
    have E3 := Lib.hid (show oftPlanR z.1 z.2 who s = planL z.1 z.2 who (mkM n0 (oftL z.1 z.2 who s)) (oftA (mkM n0 (oftL z.1 z.2 who s)) (ranksL z.1 z.2 who (oftL z.1 z.2 who s) s)) by
      rw [E.out]; unfold oftPlanL; rw [HL.out])
    go_wp2
    go_ret
    exact ⟨_, rfl, by rw [E3.out]; exact ho6.more (Nat.le_trans hB hwB.size), (below_then hb6 hwB.size hwB).mono hB⟩
end Go.Proofs.Ytblmcmccdeelgaa
namespace Go.Proofs.Ytblmcmccdeelgaa
open Go.RowKit

set_option maxHeartbeats 400000 in
theorem l1SameL (A B : Option Addr) (n m c d : Nat) (xs ys : List Int) (w : World) (ha : RI w A n c xs) (hb : RI w B m d ys) :
    Calls Try.prog 26 #[.slice A n c, .slice B m d] w fun e w' => e = .returned (.bool (eqL xs ys)) ∧ Qt w w' := by
  have b1 := ha.cap; have b2 := ha.top; have b3 := hb.cap; have b4 := hb.top
  by_cases hnm : n = m
  · subst hnm
    have hnn : ((n : Int) != (n : Int)) = false := by simp
    go_enter Try.func26, Try.ntmps26
    go_wp2
    go_loopw [5] (fun i wr => ∃ k : Nat, k ≤ n ∧ i = .int .i64 k ∧ (∀ j, j < k → gi xs j = gi ys j) ∧ ∃ q, wr = w.drewN q) (fun i _ => n - (intOf i).toNat)
    case atStart => exact ⟨0, Nat.zero_le _, rfl, by omega, 0, rfl⟩
    case round =>
      obtain ⟨k, hk, rfl, hall, q, rfl⟩ := hrel
      by_cases hlt : k < n
      · obtain ⟨b, off, rfl, hc1⟩ := ha.at_ hlt
        obtain ⟨b', off', rfl, hc2⟩ := hb.at_ hlt
        have hki : (k : Int) < (n : Int) := by omega
        have hk0 : (0 : Int) ≤ (k : Int) := by omega
        by_cases he : gi xs k = gi ys k
        · have H := Lib.hid he
          have hne : (gi xs k != gi ys k) = false := by simp [he]
          clear he
          go_wp2
          go_quiet (fail)
          go_wp2
          go_roundw
          case rel => exact ⟨k + 1, by omega, by go_num, all_succ hall H.out, _, rfl⟩
          case measure => simp [intOf]; omega
        · have H := Lib.hid he
          have hne : (gi xs k != gi ys k) = true := by simp [he]
          clear he
          go_wp2
          go_quiet (fail)
          go_wp2
          go_ret
          exact ⟨ret_b (eqL_ne H.out).symm, Qt.drew2 _ _⟩
      · go_wp2
        go_ret
        obtain rfl : k = n := by omega
        exact ⟨ret_b (eqL_of ha.1 hb.1 hall).symm, _, rfl⟩
  · have hnn : ((n : Int) != (m : Int)) = true := by simp; omega
    have H := Lib.hid hnm
    clear hnm
    go_enter Try.func26, Try.ntmps26
    go_wp2
    go_ret
    exact ⟨ret_b (eqL_len (by rw [ha.1, hb.1]; exact H.out)).symm, Qt.refl _⟩



set_option maxRecDepth 100000 in
set_option maxHeartbeats 1600000 in
theorem sameArena (s0 s1 t0 t1 : Value) (z : ArD) (w : World) (B : Nat) (hB : B ≤ w.heap.size) (ha : RAv w s0 s1 z.1 z.2) (hb : RAv w t0 t1 z.1 z.2) (har : arB z.1 z.2 = true) :
    Calls Try.prog 12 #[.agg #[s0, s1], .agg #[t0, t1]] w fun e w' => e = .returned (.bool true) ∧ Below B w w' := by
  obtain ⟨A0, n0, c0, A1, n1, c1, rfl, rfl⟩ := ha.form
  obtain ⟨B0, m0, d0, B1, m1, d1, rfl, rfl⟩ := hb.form
  have hr := ha.ri; have hrr := ha.rii; have kr := hb.ri; have krr := hb.rii
  obtain rfl : m0 = n0 := by rw [← kr.len, hr.len]
  obtain rfl : m1 = n1 := by rw [← krr.len, hrr.len]
  have b1 := hrr.cap; have b2 := hrr.top
  have HAR := Lib.hid har
  have hn1 : m1 ≤ 256 := by have h := fineAr_of har; have h1 := h.2.1; have h2 := h.2.2.1; rw [hrr.len] at h2; omega
  have hba : Below w.heap.size w ((w.alloc (.cells #[.slice A0 m0 c0, .slice A1 m1 c1] 30)).alloc (.cells #[.slice B0 m0 d0, .slice B1 m1 d1] 30)) := below_alloc (Nat.le_refl _) (below_alloc (Nat.le_refl _) (Below.refl _ _))
  have bx := (Box.new w 30 #[.slice A0 m0 c0, .slice A1 m1 c1]).alloc (.cells #[.slice B0 m0 d0, .slice B1 m1 d1] 30)
  have bl : Box ((w.alloc (.cells #[.slice A0 m0 c0, .slice A1 m1 c1] 30)).alloc (.cells #[.slice B0 m0 d0, .slice B1 m1 d1] 30)) (w.heap.size + 1) 30 #[.slice B0 m0 d0, .slice B1 m1 d1] := Box.new' (by simp)
  have q0 := bx.d0; have q1 := bx.d1; have p0 := bl.d0; have p1 := bl.d1
  clear har
  go_enter Try.func12, Try.ntmps12
  go_wp2_with fail
  refine (specArenaOk _ _ _ _ _ _ z.1 z.2 _ _ (Nat.le_refl _) (hr.keep (keeps_below hba)) (hrr.keep (keeps_below hba))).mono ?_; rintro e w1 ⟨rfl, hb1⟩
  rw [HAR.out]
  have hw1 := below_then hb1 hba.size hba
  replace bx := bx.below hb1 bx.lt; replace bl := bl.below hb1 bl.lt
  clear q0 q1 p0 p1 hb1 hba
  have q0 := bx.d0; have q1 := bx.d1; have p0 := bl.d0; have p1 := bl.d1
  go_wp2_with fail
  refine (specArenaOk _ _ _ _ _ _ z.1 z.2 _ _ (Nat.le_refl _) (kr.keep (keeps_below hw1)) (krr.keep (keeps_below hw1))).mono ?_; rintro e w2 ⟨rfl, hb2⟩
  rw [HAR.out]
  have hw2 := below_then hb2 hw1.size hw1
  replace bx := bx.below hb2 bx.lt; replace bl := bl.below hb2 bl.lt
  clear q0 q1 p0 p1 hb2
  have q0 := bx.d0; have q1 := bx.d1; have p0 := bl.d0; have p1 := bl.d1
  go_wp2_with fail
  refine (l1SameL _ _ _ _ _ _ z.1 z.1 _ (hr.keep (keeps_below hw2)) (kr.keep (keeps_below hw2))).mono ?_; rintro e w3 ⟨rfl, qq⟩
  rw [eqL_self]
  have hb3 := below_qt qq (Below.refl w2.heap.size w2)
  have hw3 := below_then hb3 hw2.size hw2
  replace bx := bx.below hb3 bx.lt; replace bl := bl.below hb3 bl.lt
  clear q0 q1 p0 p1 hb3 qq
  go_wp2
  go_loopw [5] (fun i wr => ∃ k : Nat, k ≤ m1 ∧ i = .int .i64 k ∧ Below w3.heap.size w3 wr) (fun i _ => m1 - (intOf i).toNat)
  case atStart => exact ⟨0, Nat.zero_le _, rfl, Below.refl _ _⟩
  case round =>
    obtain ⟨k, hk, rfl, hbr⟩ := hrel
    have bxr := bx.below hbr bx.lt
    have blr := bl.below hbr bl.lt
    have hwr := below_then hbr hw3.size hw3
    have q0 := bxr.d0; have q1 := bxr.d1; have p0 := blr.d0; have p1 := blr.d1
    by_cases hlt : k < m1
    · obtain ⟨bn, on, An, nn, cn, rfl, hcN, rn⟩ := hrr.at_ hlt
      obtain ⟨bm, om, Am, nm, cm, rfl, hcM, rm⟩ := krr.at_ hlt
      have hcn := keeps_below hwr _ _ hcN
      have hcm := keeps_below hwr _ _ hcM
      have hki : (k : Int) < (m1 : Int) := by omega
      have hk0 : (0 : Int) ≤ (k : Int) := by omega
      go_wp2_with fail
      refine wp_region_held_drew (S := fun w' => w'.cell? ⟨w.heap.size, 1, none⟩ = some (.slice (some ⟨bn, on, none⟩) m1 c1) ∧ w'.cell? ⟨w.heap.size + 1, 1, none⟩ = some (.slice (some ⟨bm, om, none⟩) m1 d1) ∧ w'.cell? ⟨bn, on + k, none⟩ = some (.slice An nn cn) ∧ w'.cell? ⟨bm, om + k, none⟩ = some (.slice Am nm cm)) (by kernel_rfl) (⟨q1, p1, hcn, hcm⟩) (fun hHeld => ?_)
      refine takeH0 (v := ?_) (by kernel_rfl) (by kernel_rfl) (by kernel_rfl) (fun _ _ _ h => h) hHeld (by rfl) ?_ ?_
      rotate_left; · (intro w hSw; (try dsimp only at hSw); go_simp; try with_reducible rfl)
      try simp only [Act.put, List.setIfInBounds_toArray, List.set_cons_zero, List.set_cons_succ]
      refine takeH1 (v := ?_) (by kernel_rfl) (by kernel_rfl) (by kernel_rfl) (fun _ _ _ h => h) hHeld (by rfl) ?_ ?_
      rotate_left; · (intro w hSw; (try dsimp only at hSw); go_simp; try with_reducible rfl)
      try simp only [Act.put, List.setIfInBounds_toArray, List.set_cons_zero, List.set_cons_succ]
      refine takeH2 (v := ?_) (by kernel_rfl) (by kernel_rfl) (by kernel_rfl) (fun _ _ _ h => h) hHeld (by rfl) ?_ ?_
      rotate_left; · (intro w hSw; (try dsimp only at hSw); go_simp; try with_reducible rfl)
      try simp only [Act.put, List.setIfInBounds_toArray, List.set_cons_zero, List.set_cons_succ]
      refine takeH3 (v := ?_) (by kernel_rfl) (by kernel_rfl) (by kernel_rfl) (fun _ _ _ h => h) hHeld (by rfl) ?_ ?_
      rotate_left; · (intro w hSw; (try dsimp only at hSw); go_simp; try with_reducible rfl)
      try simp only [Act.put, List.setIfInBounds_toArray, List.set_cons_zero, List.set_cons_succ]
      refine takeH4 (v := ?_) (by kernel_rfl) (by kernel_rfl) (by kernel_rfl) (fun _ _ _ h => h) hHeld (by rfl) ?_ ?_
      rotate_left; · (intro w hSw; (try dsimp only at hSw); go_simp; try with_reducible rfl)
      try simp only [Act.put, List.setIfInBounds_toArray, List.set_cons_zero, List.set_cons_succ]
      refine takeH5 (v := ?_) (by kernel_rfl) (by kernel_rfl) (by kernel_rfl) (fun _ _ _ h => h) hHeld (by rfl) ?_ ?_
      rotate_left; · (intro w hSw; (try dsimp only at hSw); go_simp; try with_reducible rfl)
      try simp only [Act.put, List.setIfInBounds_toArray, List.set_cons_zero, List.set_cons_succ]
      refine takeH6 (v := ?_) (by kernel_rfl) (by kernel_rfl) (by kernel_rfl) (fun _ _ _ h => h) hHeld (by rfl) ?_ ?_
      rotate_left; · (intro w hSw; (try dsimp only at hSw); go_simp; try with_reducible rfl)
      try simp only [Act.put, List.setIfInBounds_toArray, List.set_cons_zero, List.set_cons_succ]
      refine takeH7 (v := ?_) (by kernel_rfl) (by kernel_rfl) (by kernel_rfl) (fun _ _ _ h => h) hHeld (by rfl) ?_ ?_
      rotate_left; · (intro w hSw; (try dsimp only at hSw); go_simp; try with_reducible rfl)
      try simp only [Act.put, List.setIfInBounds_toArray, List.set_cons_zero, List.set_cons_succ]
      refine takeH8 (v := ?_) (by kernel_rfl) (by kernel_rfl) (by kernel_rfl) (fun _ _ _ h => h) hHeld (by rfl) ?_ ?_
      rotate_left; · (intro w hSw; (try dsimp only at hSw); go_simp; try with_reducible rfl)
      try simp only [Act.put, List.setIfInBounds_toArray, List.set_cons_zero, List.set_cons_succ]
      refine takeH9 (v := ?_) (by kernel_rfl) (by kernel_rfl) (by kernel_rfl) (fun _ _ _ h => h) hHeld (by rfl) ?_ ?_
      rotate_left; · (intro w hSw; (try dsimp only at hSw); go_simp; try with_reducible rfl)
      try simp only [Act.put, List.setIfInBounds_toArray, List.set_cons_zero, List.set_cons_succ]
      refine callH10 (by kernel_rfl) (fun K hK => ?_)
      go_simp
      go_at_call 26
      refine (l1SameL _ _ _ _ _ _ (gl z.2 k) (gl z.2 k) _ (rn.keep (keeps_below (Below.drew hwr))) (rm.keep (keeps_below (Below.drew hwr)))).mono ?_; rintro e wh ⟨rfl, qh⟩
      rw [eqL_self]
      have hbh := below_qt qh (Below.drew (Below.refl wr.heap.size wr))
      have bxh := bxr.below hbh bxr.lt
      have blh := blr.below hbh blr.lt
      have h1 := keeps_below hbh _ _ hcn
      have h2 := keeps_below hbh _ _ hcm
      go_wp2_with fail
      refine hK.out _ _ (⟨bxh.d1, blh.d1, h1, h2⟩) (fun hHeld => ?_)
      clear hK K
      try simp only [Act.put, List.setIfInBounds_toArray, List.set_cons_zero, List.set_cons_succ]
      refine takeH11 (v := ?_) (by kernel_rfl) (by kernel_rfl) (by kernel_rfl) (fun _ _ _ h => h) hHeld (by rfl) ?_ ?_
      rotate_left; · (intro w hSw; (try dsimp only at hSw); go_simp; try with_reducible rfl)
      try simp only [Act.put, List.setIfInBounds_toArray, List.set_cons_zero, List.set_cons_succ]
      refine wpAnyH_done (by kernel_rfl) ?_ _
      go_wp2
      go_roundw
      case rel => exact ⟨k + 1, by omega, by go_num, below_then hbh hbr.size hbr⟩
      case measure => simp [intOf]; omega
    · obtain rfl : k = m1 := by omega
      go_wp2
      go_ret
      exact ⟨rfl, hwr.mono hB⟩

end Go.Proofs.Ytblmcmccdeelgaa
namespace Go.Proofs.Ytblmcmccdeelgaa
open Go.RowKit

end Go.Proofs.Ytblmcmccdeelgaa
namespace Go.Proofs.Ytblmcmccdeelgaa
open Go.RowKit

end Go.Proofs.Ytblmcmccdeelgaa
namespace Go.Proofs.Ytblmcmccdeelgaa
open Go.RowKit

def shift (d : Nat) (xs : List Int) : List Int := xs.map (· + (d : Int))
end Go.Proofs.Ytblmcmccdeelgaa
namespace Go.Proofs.Ytblmcmccdeelgaa
open Go.RowKit

/-- a row's block is no box of another type -/
theorem row_box {E t : TypeId} {w : World} {lo size n b : Nat} {v : Value} {cs : List Value} {xs : Array Value} (h : w.ownsRow lo E size v n cs) (hb : Box w b t xs) (hne : E ≠ t) : v.ownBlock ≠ some b := by
  intro hv
  rcases h.2 with ⟨rfl, _⟩ | ⟨g, cap, cur, rfl, _, h3, _⟩
  · simp [Value.ownBlock] at hv
  · simp [Value.ownBlock] at hv
    subst hv
    unfold Box at hb
    rw [hb] at h3
    injection h3 with h3
    injection h3 with _ e
    exact hne e.symm
theorem OPar.chgBox {w w' : World} {lo b : Nat} {t : TypeId} {xs : Array Value} {s0 s1 s2 : Value} {g : ParD} (h : OPar w lo s0 s1 s2 g) (hb : Box w b t xs) (h1 : 2 ≠ t) (h2 : 27 ≠ t) (hc : Chg (fun x => x = b) w w') : OPar w' lo s0 s1 s2 g := by
  obtain ⟨cs, ⟨k0, k1, k2⟩, k3, k4⟩ := h
  have no : ∀ {v : Value} {xs : List Int}, OI 2 w lo v xs → ∀ z, v.ownBlock = some z → ¬ z = b := fun ho z hz e => row_box ho hb h1 (by rw [hz, e])
  exact ⟨cs, ⟨k0.chg hc (no k0), row_chg k1 hc (fun z hz e => row_box k1 hb h2 (by rw [hz, e])), fun i hi => (k2 i hi).chg hc (no (k2 i hi))⟩, k3.chg hc (no k3), k4⟩
theorem OPar.noBox {w : World} {lo b : Nat} {t : TypeId} {xs : Array Value} {s0 s1 s2 : Value} {g : ParD} (h : OPar w lo s0 s1 s2 g) (hb : Box w b t xs) (h1 : 2 ≠ t) (h2 : 27 ≠ t) : ¬ (s0.ownBlock = some b ∨ s1.ownBlock = some b ∨ s2.ownBlock = some b) := by
  obtain ⟨cs, ⟨k0, k1, k2⟩, k3, k4⟩ := h
  rintro (h | h | h)
  · exact row_box k0 hb h1 h
  · exact row_box k1 hb h2 h
  · exact row_box k3 hb h1 h
/-- a game that grows in the box bg, its rows older or younger than the box; the result's box br is empty yet -/
def GSy (lo : Nat) (w0 wr : World) (br bg : Nat) (s0 s1 s2 : Value) (g : ParD) : Prop :=
  Below w0.heap.size w0 wr ∧ (w0.heap.size ≤ br ∧ br < lo ∧ lo ≤ bg ∧ lo ≤ wr.heap.size) ∧ Box wr br 34 #[.slice none 0 0, .slice none 0 0, .slice none 0 0] ∧ Box wr bg 34 #[s0, s1, s2] ∧ OPar wr lo s0 s1 s2 g
section
variable {lo br bg : Nat} {w0 wr w : World} {s0 s1 s2 t0 t1 t2 : Value} {g g' : ParD}
theorem GSy.below (h : GSy lo w0 wr br bg s0 s1 s2 g) : Below w0.heap.size w0 wr := h.1
theorem GSy.ord (h : GSy lo w0 wr br bg s0 s1 s2 g) : w0.heap.size ≤ br ∧ br < lo ∧ lo ≤ bg ∧ lo ≤ wr.heap.size := h.2.1
theorem GSy.zero (h : GSy lo w0 wr br bg s0 s1 s2 g) : Box wr br 34 #[.slice none 0 0, .slice none 0 0, .slice none 0 0] := h.2.2.1
theorem GSy.box (h : GSy lo w0 wr br bg s0 s1 s2 g) : Box wr bg 34 #[s0, s1, s2] := h.2.2.2.1
theorem GSy.own (h : GSy lo w0 wr br bg s0 s1 s2 g) : OPar wr lo s0 s1 s2 g := h.2.2.2.2
theorem GSy.move (h : GSy lo w0 wr br bg s0 s1 s2 g) (hb : Below wr.heap.size wr w) : GSy lo w0 w br bg s0 s1 s2 g :=
  ⟨below_then hb h.1.size h.1, ⟨h.ord.1, h.ord.2.1, h.ord.2.2.1, Nat.le_trans h.ord.2.2.2 hb.size⟩, h.zero.on hb, h.box.on hb, h.own.below hb⟩
theorem ne_par : 2 ≠ 34 := by decide
theorem ne_par2 : 27 ≠ 34 := by decide
theorem GSy.start (hw : Below w0.heap.size w0 w) (hb : w0.heap.size ≤ br) (hbr : br < lo) (hlo : lo ≤ w.heap.size) (hz : Box w br 34 #[.slice none 0 0, .slice none 0 0, .slice none 0 0]) (ho : OPar w lo s0 s1 s2 g) :
    GSy lo w0 (w.alloc (.cells #[s0, s1, s2] 34)) br w.heap.size s0 s1 s2 g := by
  have hba : Below w.heap.size w (w.alloc (.cells #[s0, s1, s2] 34)) := below_alloc (Nat.le_refl _) (Below.refl _ _)
  exact ⟨below_then hba hw.size hw, ⟨hb, hbr, hlo, Nat.le_trans hlo hba.size⟩, hz.alloc _, Box.new w 34 #[s0, s1, s2], ho.below hba⟩
theorem GSy.store {wz : World} (h : GSy lo w0 wr br bg s0 s1 s2 g) (hz : Below wr.heap.size wr wz) (hb : Below lo wz w) (hc : Chg (fun b => s0.ownBlock = some b ∨ s1.ownBlock = some b ∨ s2.ownBlock = some b) wz w) (ho : OPar w lo t0 t1 t2 g') :
    Box w bg 34 #[s0, s1, s2] ∧ GSy lo w0 (((w.setCell ⟨bg, 0, none⟩ t0).setCell ⟨bg, 1, none⟩ t1).setCell ⟨bg, 2, none⟩ t2) br bg t0 t1 t2 g' := by
  have h2 := h.move hz
  have od := h2.ord
  have bx : Box w bg 34 #[s0, s1, s2] := (hc.block bg h2.box.lt (h2.own.noBox h2.box ne_par ne_par2)).trans h2.box
  have ch := Chg.set3 w bg t0 t1 t2
  refine ⟨bx, ?_, ⟨od.1, od.2.1, od.2.2.1, by have := hb.size; have := ch.size; omega⟩, (h2.zero.below hb (by omega)).far3 (by omega) _ _ _, bx.set3 _ _ _, ho.chgBox bx ne_par ne_par2 ch⟩
  exact (h2.1.trans (hb.mono (by omega))).trans (ch.below (by have := hb.size; omega) (fun x hx => by omega))
theorem GSy.fin (h : GSy lo w0 wr br bg s0 s1 s2 g) : OPar (((wr.setCell ⟨br, 0, none⟩ s0).setCell ⟨br, 1, none⟩ s1).setCell ⟨br, 2, none⟩ s2) lo s0 s1 s2 g ∧
    Below w0.heap.size w0 (((wr.setCell ⟨br, 0, none⟩ s0).setCell ⟨br, 1, none⟩ s1).setCell ⟨br, 2, none⟩ s2) ∧
    Box (((wr.setCell ⟨br, 0, none⟩ s0).setCell ⟨br, 1, none⟩ s1).setCell ⟨br, 2, none⟩ s2) br 34 #[s0, s1, s2] := by
  have ch := Chg.set3 wr br s0 s1 s2
  have od := h.ord
  exact ⟨h.own.chg ch (fun x hx => by omega), h.1.trans (ch.below h.1.size (fun x hx => by omega)), h.zero.set3 _ _ _⟩
end


end Go.Proofs.Ytblmcmccdeelgaa
