/- FnVertexWords: for every input the law returns true, and the argument reads as it read before. No condition. -/
import Derived.Test.YtkhkdnmpbfmmeaaDoorOpenY
import Derived.Test.YtkhkdnmpbfmmeaaDoorParP
import Derived.Test.YtkhkdnmpbfmmeaaDoorTvx
import Derived.Test.YtkhkdnmpbfmmeaaDoorVtxT
import Derived.Test.YtkhkdnmpbfmmeaaDoorCard
import Derived.Deep.RegionHeld3
import Derived.Test.YtkhkdnmpbfmmeaaDoorCards
import Derived.Test.YtkhkdnmpbfmmeaaDoorTie
namespace Go.Proofs.YtkhkdnmpbfmmeaaDoor
open Go.RowKit

/-- the words of a vertex's line -/
def vws (g : ParD) (v : Nat) : List (List UInt8) := Lib.decDigits (gi g.2.2 v).toNat :: wo (gi g.1 v) :: (gl g.2.1 v).map fun u => Lib.decDigits u.toNat
theorem wo_clean {o : Int} {c : UInt8} (h1 : c ∉ evB) (h2 : c ∉ odB) : c ∉ wo o := by
  unfold wo
  split
  · exact h1
  · exact h2
theorem vws_clean (g : ParD) (v : Nat) : ∀ x ∈ vws g v, (32 : UInt8) ∉ x := by
  intro x hx
  unfold vws at hx
  rcases List.mem_cons.1 hx with rfl | hx
  · exact dec_clean (by decide)
  · rcases List.mem_cons.1 hx with rfl | hx
    · exact wo_clean (by decide) (by decide)
    · obtain ⟨u, _, rfl⟩ := List.mem_map.1 hx
      exact dec_clean (by decide)
theorem vtx_join {g : ParD} {v : Nat} (h : 1 ≤ (gl g.2.1 v).length) : vtx g v = Lib.join (vws g v) [32] := by
  rw [vtx_eq h]
  unfold vws tlx
  rw [Lib.join_cons]
  simp [Lib.joinTail]
theorem vtx_spl {g : ParD} {v : Nat} (h : 1 ≤ (gl g.2.1 v).length) : spl 32 (vtx g v) = vws g v := by
  rw [vtx_join h]
  exact spl_join 32 _ (by unfold vws; simp) (vws_clean g v)
theorem plr_wo {o : Int} (h : o = 0 ∨ o = 1) : plr (wo o) = o := by
  rcases h with rfl | rfl <;> decide
theorem vtx_tvN {g : ParD} {v : Nat} {n : Int} (h : 1 ≤ (gl g.2.1 v).length) : tvN (spl 32 (vtx g v)) n = (gl g.2.1 v).map fun u => rdNum (Lib.decDigits u.toNat) (n - 1) := by
  rw [vtx_spl h]
  unfold tvN vws
  simp only [List.drop_succ_cons, List.drop_zero, List.map_map]
  rfl
theorem vtx_small {g : ParD} (hf : finePar g) {v : Nat} (hv : v < g.1.length) : (vtx g v).length ≤ 200 := by
  obtain ⟨⟨f1, f2, f3, f4⟩, f5, f6⟩ := hf
  obtain ⟨⟨o0, o1⟩, ⟨x0, x1⟩, xs⟩ := f4 v hv
  obtain ⟨p0, p1⟩ := f6 v (by omega)
  rw [vtx_eq x0, List.length_append, List.length_append, List.length_append, List.length_singleton]
  have h1 := dec_len9 (show (gi g.2.2 v).toNat < 1000000000 by omega)
  have h2 := wo_len (gi g.1 v)
  have h3 := tlx_len (us := gl g.2.1 v) (fun u hu => by have := set_all xs u hu; omega) _ (Nat.le_refl _)
  rw [List.take_length] at h3
  omega
/-- parsing the line of a vertex gives the vertex back -/
theorem vtx_back {g : ParD} (hf : finePar g) {v : Nat} (hv : v < g.1.length) : tvOk (vtx g v) (g.1.length : Int) = true ∧ tvP (vtx g v) (g.1.length : Int) = gi g.2.2 v ∧ tvO (vtx g v) (g.1.length : Int) = gi g.1 v ∧ tvX (vtx g v) (g.1.length : Int) = gl g.2.1 v := by
  obtain ⟨⟨f1, f2, f3, f4⟩, f5, f6⟩ := hf
  obtain ⟨⟨o0, o1⟩, ⟨x0, x1⟩, xs⟩ := f4 v hv
  obtain ⟨p0, p1⟩ := f6 v (by omega)
  have hs := vtx_spl x0
  have hN : tvN (spl 32 (vtx g v)) (g.1.length : Int) = gl g.2.1 v := by
    rw [vtx_tvN x0]
    conv => rhs; rw [← List.map_id (gl g.2.1 v)]
    apply List.map_congr_left
    intro u hu
    have h1 := set_all xs u hu
    obtain ⟨k, rfl⟩ := Int.eq_ofNat_of_zero_le h1.1
    rw [Int.toNat_natCast, rdNum_dec (by omega) (by omega)]
    rfl
  have h0 : gx (spl 32 (vtx g v)) 0 = Lib.decDigits (gi g.2.2 v).toNat := by rw [hs]; rfl
  have h1 : gx (spl 32 (vtx g v)) 1 = wo (gi g.1 v) := by rw [hs]; rfl
  have hl : (spl 32 (vtx g v)).length = (gl g.2.1 v).length + 2 := by rw [hs]; unfold vws; simp
  have hp : rdNum (gx (spl 32 (vtx g v)) 0) 40 = gi g.2.2 v := by
    rw [h0]
    obtain ⟨k, hk⟩ := Int.eq_ofNat_of_zero_le p0
    rw [hk, Int.toNat_natCast, rdNum_dec (by omega) (by omega)]
  have ho : plr (gx (spl 32 (vtx g v)) 1) = gi g.1 v := by rw [h1]; exact plr_wo (by omega)
  have hok : tvOk (vtx g v) (g.1.length : Int) = true := tvOk_of ⟨by omega, by omega, by omega, by omega, by rw [hp]; exact p0, by rw [ho]; exact o0⟩ (by rw [hN]; exact xs)
  obtain ⟨e1, e2, e3⟩ := tv_yes hok
  exact ⟨hok, by rw [e1, hp], by rw [e2, ho], by rw [e3, hN]⟩
/-- for a game of fewer vertices it is no line -/
theorem vtx_less {g : ParD} (hf : finePar g) {v : Nat} (hv : v < g.1.length) {i : Nat} (hi : i < (gl g.2.1 v).length) : tvOk (vtx g v) (gi (gl g.2.1 v) i) = false := by
  obtain ⟨⟨f1, f2, f3, f4⟩, f5, f6⟩ := hf
  obtain ⟨⟨o0, o1⟩, ⟨x0, x1⟩, xs⟩ := f4 v hv
  have hN := vtx_tvN (n := gi (gl g.2.1 v) i) x0
  have hl : (spl 32 (vtx g v)).length = (gl g.2.1 v).length + 2 := by rw [vtx_spl x0]; unfold vws; simp
  refine tv_bad (i := i) (by omega) (fun h => ?_)
  have h1 := h.1
  rw [hN, gi_get (by rw [List.length_map]; exact hi), List.getElem_map] at h1
  have h2 := set_all xs _ (gi_mem hi)
  rw [gi_get hi] at h1 h2
  obtain ⟨k, hk⟩ := Int.eq_ofNat_of_zero_le h2.1
  rw [hk, Int.toNat_natCast, rdNum_dec_no (by omega)] at h1
  omega
end Go.Proofs.YtkhkdnmpbfmmeaaDoor
namespace Go.Proofs.YtkhkdnmpbfmmeaaDoor.fnVertexWords
open Go.ChangeShapes Go.WideShapes Go.ChangeAt Go.RowKit

theorem PN.on {w w' : World} (h : PN w) (hb : Below w.heap.size w w') : PN w' := h.keep (keeps_below hb)
theorem Max.on {w w' : World} (h : Max w) (hb : Below w.heap.size w w') : Max w' := h.keep (keeps_below hb)
theorem RAvI {w : World} {s0 s1 : Value} {o : List Int} {n : List (List Int)} (h : RAv w s0 s1 o n) {A0 A1 : Option Addr} {n0 c0 n1 c1 : Nat} (e0 : s0 = .slice A0 n0 c0) (e1 : s1 = .slice A1 n1 c1) : RI w A0 n0 c0 o ∧ RII w A1 n1 c1 n := by
  obtain ⟨⟨A, a, c, rfl, h1⟩, ⟨B, b, d, rfl, h2⟩⟩ := h
  injection e0 with a1 a2 a3
  injection e1 with b1 b2 b3
  subst a1; subst a2; subst a3; subst b1; subst b2; subst b3
  exact ⟨h1, h2⟩
theorem RIvI {w : World} {s0 : Value} {o : List Int} (h : RIv w s0 o) {A0 : Option Addr} {n0 c0 : Nat} (e0 : s0 = .slice A0 n0 c0) : RI w A0 n0 c0 o := by
  obtain ⟨A, a, c, rfl, h1⟩ := h
  injection e0 with a1 a2 a3
  subst a1; subst a2; subst a3
  exact h1
theorem OI.sl {E : TypeId} {w : World} {lo : Nat} {v : Value} {xs : List Int} (h : OI E w lo v xs) : ∃ A c, v = .slice A xs.length c := h.form

set_option maxRecDepth 100000 in
set_option maxHeartbeats 3200000 in
theorem walk (A : Option Addr) (n c : Nat) (l : List Int) (w : World) (hy : RY w A n c l) (fT : Tab w) (fP : PN w) (fM : Max w) :
    Calls Tryd.prog 11 #[.slice A n c] w fun e w' => e = .returned (.bool true) ∧ Below w.heap.size w w' := by
  have b1 := hy.cap; have b2 := hy.top
  by_cases hb : 4096 < n
  · have E := Lib.hid (show decide (4096 < n) = true from decide_eq_true hb)
    go_enter Tryd.func11, Tryd.ntmps11
    go_wp2_with fail
    refine (big _ _ _ _ _ hy).mono ?_; rintro e w1 ⟨rfl, q1⟩
    rw [E.out]
    go_wp2
    go_ret
    exact ⟨rfl, below_qt q1 (Below.refl _ _)⟩
  have E := Lib.hid (show decide (4096 < n) = false from decide_eq_false hb)
  have hn : n ≤ 4096 := by omega
  clear hb
  go_enter Tryd.func11, Tryd.ntmps11
  go_wp2_with fail
  refine (big _ _ _ _ _ hy).mono ?_; rintro e w1 ⟨rfl, q1⟩
  rw [E.out]
  have hw1 := below_qt q1 (Below.refl w.heap.size w)
  have sz1 := hw1.size
  go_wp2_with fail
  refine (roll A n c l _ _ (hy.keep (keeps_below hw1)) hn).mono ?_; rintro e w2 ⟨b, rfl, hd2⟩
  have hw2 := below_then hd2.bel sz1 hw1
  have lo2 := hd2.lo
  have up2 := hd2.lt
  have hwb : w.heap.size ≤ b := by omega
  clear hw1 q1 hy E b1 b2
  go_wp2_with fail
  refine (w9Game _ _ b 8 hd2 (by omega) (by omega)).mono ?_; rintro e w3 ⟨s0, s1, s2, g, rfl, HG, og, hd3, hc3⟩
  obtain ⟨A0, c0, A1, c1, A2, c2, rfl, rfl, rfl⟩ := og.form
  have hw3 : Below w.heap.size w w3 := hw2.trans (hc3.below hw2.size (fun y hy => by have h3 : y = b := hy; omega))
  have sz3 := hc3.size
  have hfg := finePar_of HG.out.1
  obtain ⟨m, hm_⟩ : ∃ m, g.1.length = m := ⟨_, rfl⟩
  have hnp : g.2.2.length = m := by rw [hfg.2.1]; exact hm_
  have hm8 : m ≤ 8 := by have h1 := HG.out.2.1; omega
  have hm1 : 1 ≤ m := by have h1 := hfg.1.1; omega
  have HN := Lib.hid hm_; have HNP := Lib.hid hnp; have HF := Lib.hid hfg
  rw [hnp, hm_] at og ⊢
  have hba3 : Below w3.heap.size w3 (w3.alloc (.cells #[.slice A0 m c0, .slice A1 g.2.1.length c1, .slice A2 m c2] 54)) := below_alloc (Nat.le_refl _) (Below.refl _ _)
  have bG : Box (w3.alloc (.cells #[.slice A0 m c0, .slice A1 g.2.1.length c1, .slice A2 m c2] 54)) w3.heap.size 54 #[.slice A0 m c0, .slice A1 g.2.1.length c1, .slice A2 m c2] := Box.new _ _ _
  have hd4 := hd3.on hba3; replace og := og.below hba3
  have hw4 := below_then hba3 hw3.size hw3
  have bb3 : b < w2.heap.size := up2
  have p2 := bG.c2
  have Ew : (w3.alloc (.cells #[.slice A0 m c0, .slice A1 g.2.1.length c1, .slice A2 m c2] 54)).heap.size = w3.heap.size + 1 := by simp
  have HE := Lib.hid Ew
  clear hc3 hba3 hw3 hd2 hw2 hm_ hfg hnp hd3 Ew
  go_wp2_with fail
  generalize w3.alloc (.cells #[.slice A0 m c0, .slice A1 g.2.1.length c1, .slice A2 m c2] 54) = w4 at *
  refine (below w1 _ b (m : Int) hd4 (by omega)).mono ?_; rintro e w5 ⟨x, rfl, hx, hd5, hc5⟩
  obtain ⟨v, rfl⟩ := Int.eq_ofNat_of_zero_le hx.1
  have hv : v < m := by omega
  have hbG : b < w3.heap.size := by omega
  have bG5 : Box w5 w3.heap.size 54 #[.slice A0 m c0, .slice A1 g.2.1.length c1, .slice A2 m c2] := (hc5.block _ bG.lt (fun e => by have h3 : w3.heap.size = b := e; omega)).trans bG
  have og5 := og.chg hc5 (fun y hy => by have h3 : y = b := hy; omega)
  have hw5 : Below w.heap.size w w5 := hw4.trans (hc5.below hw4.size (fun y hy => by have h3 : y = b := hy; omega))
  have sz5 := hc5.size
  have hR := og5.reads
  have EV := Lib.hid (vtxT_yes HG.out.1 (show v < g.1.length by rw [HN.out]; exact hv))
  have EB := Lib.hid (vtx_back HF.out (show v < g.1.length by rw [HN.out]; exact hv))
  have ES := Lib.hid (vtx_small HF.out (show v < g.1.length by rw [HN.out]; exact hv))
  clear hd4 hc5 bG og hw4 p2 hd5 hx
  have p0 := bG5.c0; have p1 := bG5.c1; have p2 := bG5.c2
  go_wp2_with fail
  refine (implVertexText _ _ _ g _ _ _ (Nat.le_refl _) (fT.below hw5) (fP.keep (keeps_below hw5)) hR).mono ?_; rintro e w6 ⟨rfl, hb6⟩
  rw [EV.out]
  have hw6 := below_then hb6 hw5.size hw5
  have bG6 := bG5.on hb6
  replace hR := hR.keep (keeps_below hb6)
  clear p0 p1 p2
  go_wp2_with fail
  refine (implTextVertex _ _ _ _ (Nat.le_refl _) (fP.keep (keeps_below hw6)) (fM.keep (keeps_below hw6)) (by rw [tx_size]; have := ES.out; omega)).mono ?_; rintro e w7 ⟨s9, rfl, ho7, hb7⟩
  rw [tx_data] at ho7 ⊢
  have hmi : ((g.1.length : Nat) : Int) = (m : Int) := by rw [HN.out]
  rw [← hmi] at ho7 ⊢
  rw [EB.out.2.2.2] at ho7
  rw [EB.out.1, EB.out.2.1, EB.out.2.2.1]
  have hw7 := below_then hb7 hw6.size hw6
  have bG7 := bG6.on hb7
  replace hR := hR.keep (keeps_below hb7)
  obtain ⟨R0, R1⟩ := RAvI hR.1 rfl rfl
  have R2 := RIvI hR.2 rfl
  obtain ⟨ba, oa, rfl, ka⟩ := R0.at_ hv
  have hl1 : g.2.1.length = m := by have h1 := HF.out.1.2.2.1; omega
  rw [hl1] at R1 bG7
  obtain ⟨bb, ob, Au, nu, cu, rfl, kb, ru⟩ := R1.at_ hv
  obtain ⟨bc, oc, rfl, kc⟩ := R2.at_ hv
  have p0 := bG7.c0; have p1 := bG7.c1; have p2 := bG7.c2
  obtain ⟨A9, c9, rfl⟩ := ho7.form
  have h9 := ho7.reads
  have hx1 : 1 ≤ (gl g.2.1 v).length ∧ (gl g.2.1 v).length ≤ 16 := by
    have h1 := HF.out.1.2.2.2 v (by rw [HN.out]; exact hv)
    exact ⟨h1.2.1.1, h1.2.1.2⟩
  obtain ⟨L, hL⟩ : ∃ L, (gl g.2.1 v).length = L := ⟨_, rfl⟩
  obtain ⟨k, hk⟩ : ∃ k, k + 1 = L := ⟨L - 1, by omega⟩
  have HL := Lib.hid hL
  have HK := Lib.hid hk
  have EL := Lib.hid (vtx_less HF.out (show v < g.1.length by rw [HN.out]; exact hv) (i := k) (by omega))
  rw [hL] at h9 ho7 ⊢
  have hk16 : k < 16 := by omega
  have ek : IntKind.i64.wrap ((L : Int) - 1) = (k : Int) := by rw [show (L : Int) - 1 = (k : Int) by omega]; exact IntWalk.i64_in _ (by omega)
  have hkL : (k : Int) < (L : Int) := by omega
  have hk0 : (0 : Int) ≤ (k : Int) := by omega
  have hkl : k < L := by omega
  clear hk hx1 hL
  go_wp2_with (go_at_call 46; refine (likeInts _ _ _ _ _ _ _ _ _ h9 ru).mono ?_; rintro e w8 ⟨rfl, q8⟩; rw [eqL_self])
  have hb8 : Below w7.heap.size w7 w8 := below_qt q8 (Below.refl _ _)
  have hw8 := below_then hb8 hw7.size hw7
  have bG8 := bG7.on hb8
  have h98 := h9.keep (keeps_below hb8)
  obtain ⟨bd, od, hA9, kd⟩ := h98.at_ hkl
  subst hA9
  have n0 : w8.cell? ⟨w3.heap.size, 0, none⟩ = some (.slice (some ⟨ba, oa, none⟩) m c0) := bG8.cell 0
  have n1 : w8.cell? ⟨w3.heap.size, 1, none⟩ = some (.slice (some ⟨bb, ob, none⟩) m c1) := bG8.cell 1
  have n2 : w8.cell? ⟨w3.heap.size, 2, none⟩ = some (.slice (some ⟨bc, oc, none⟩) m c2) := bG8.cell 2
  have hR8 := hR.keep (keeps_below hb8)
  rw [hl1] at hR8
  have hP8 := fP.keep (keeps_below hw8)
  have hM8 := fM.keep (keeps_below hw8)
  have hT8 := fT.below hw8
  have H3 := Lib.hid (fun (wx : World) (hx : Below w8.heap.size w8 wx) => (⟨keeps_below hx _ _ n0, keeps_below hx _ _ n1, keeps_below hx _ _ n2, keeps_below hx _ _ kd⟩ : wx.cell? ⟨w3.heap.size, 0, none⟩ = some (.slice (some ⟨ba, oa, none⟩) m c0) ∧ wx.cell? ⟨w3.heap.size, 1, none⟩ = some (.slice (some ⟨bb, ob, none⟩) m c1) ∧ wx.cell? ⟨w3.heap.size, 2, none⟩ = some (.slice (some ⟨bc, oc, none⟩) m c2) ∧ wx.cell? ⟨bd, od + k, none⟩ = some (.int .i64 (gi (gl g.2.1 v) k))))
  clear bG5 og5 bG6 bG7 hb6 hb7 q8 hb8 ka kb kc R0 R1 R2 ru p0 p1 p2 ho7 h9 h98
  go_wp2_with fail
  go_region_held3 (fun w' => w'.cell? ⟨w3.heap.size, 0, none⟩ = some (.slice (some ⟨ba, oa, none⟩) m c0) ∧ w'.cell? ⟨w3.heap.size, 1, none⟩ = some (.slice (some ⟨bb, ob, none⟩) m c1) ∧ w'.cell? ⟨w3.heap.size, 2, none⟩ = some (.slice (some ⟨bc, oc, none⟩) m c2) ∧ w'.cell? ⟨bd, od + k, none⟩ = some (.int .i64 (gi (gl g.2.1 v) k)))
    (refine ⟨?_, ?_, ?_, ?_⟩ <;> repeat (first | with_reducible assumption | with_reducible refine keepD ?_ | with_reducible refine keepA ?_))
    (first
      | (go_at_call 34
         refine (implVertexText _ _ _ g _ _ _ (Nat.le_refl _) (hT8.below (Below.drew (Below.refl _ _))) (hP8.keep (keeps_below (Below.drew (Below.refl _ _)))) (hR8.keep (keeps_below (Below.drew (Below.refl _ _))))).mono ?_; rintro e wa ⟨rfl, hba⟩
         rw [EV.out]
         have hxa : Below w8.heap.size w8 wa := below_undrew hba
         obtain ⟨d0, d1, d2, d3⟩ := H3.out wa hxa)
      | (go_at_call 26
         refine (implTextVertex _ _ _ _ (Nat.le_refl _) (hP8.keep (keeps_below hxa)) (hM8.keep (keeps_below hxa)) (by rw [tx_size]; have := ES.out; omega)).mono ?_; rintro e wb ⟨s10, rfl, hob, hbb⟩
         rw [tx_data, EL.out]
         have hxb : Below w8.heap.size w8 wb := below_then hbb hxa.size hxa
         obtain ⟨e0, e1, e2, e3⟩ := H3.out wb hxb))
  go_wp2
  go_ret
  exact ⟨rfl, below_then hxb hw8.size hw8⟩
theorem own : ownKnob Tryd.prog.godebug = none := by kernel_rfl
theorem laidOut : laidOutB Tryd.prog = true := by kernel_rfl
set_option maxRecDepth 100000 in
theorem lifted (os : Os) (started : os.Started) (H : Type) (enc : TypeId × Value → H) :
    ReturnsInHanded {} Tryd.checked os 11 .any (fun w args => (Rows.fnVertexWordsSpec.pre enc Tryd.prog Tryd.f11 Rows.fnVertexWordsRow.domain false w args ∧ laidMetH Tryd.prog Rows.fnVertexWordsRow.laid w) ∧ sizedMet enc Tryd.prog Tryd.f11 (OpenSpec.ofChange Rows.fnVertexWordsSpec) false w args) (Rows.fnVertexWordsSpec.post enc Tryd.prog Tryd.f11 false true false false) := by
  refine returns_laid (C := Tryd.checked) own started (by kernel_rfl) Tryd.func11
    (ChangeSpec.witness_shaped (enc := enc) (C := Tryd.checked) (os := os) (X := fun w _ => laidMetH Tryd.prog Rows.fnVertexWordsRow.laid w) false (World.laidAll Tryd.prog os Rows.fnVertexWordsRow.laid) #[.slice none 0 0] 8 (World.laidAll_os _ _ _)
      (World.shaped_of_ZipB (by kernel_rfl) (by kernel_rfl)) (by kernel_rfl) (by kernel_rfl) (by kernel_rfl)
      (by rw [MakeChecks.laidMetH_plain _ _ _ (by kernel_rfl)]; exact laidMet_laidAll _ (by kernel_rfl) (by kernel_rfl))) ?_
  intro W base args ds gs before hval0 hW hL hsh
  have hval : ∀ (j : Nat) t v, Tryd.f11.params[j]? = some t → args[j]? = some v → Value.okWide Tryd.prog W .any base t v := hval0
  have hW' := hW
  obtain ⟨p, q, hA0, hV, rfl, hfz, hnd⟩ := hW
  have hA : DataW.TrodAll enc Tryd.prog W 0 (fun _ => true) true Tryd.f11.params.toList args.toList ds p := hA0
  rw [Tryd.params11] at hA hval
  obtain ⟨v0, vs0, d0, ds0, p0, q0, hargs, rfl, rfl, h0, r0⟩ := trodAll_cons hA
  obtain ⟨rfl, rfl, rfl⟩ := trodAll_nil r0
  obtain rfl : args = #[v0] := by cases args; simp_all
  obtain ⟨g1, rfl⟩ := names_one hV
  have k0 := h0
  have lt0 : ∀ x ∈ p0, x.block < W.heap.size := by obtain ⟨m, hm⟩ := k0; exact DataW.trod_lt m _ _ _ hm
  obtain ⟨fuel0, hf0⟩ := h0
  obtain ⟨A0, n0, c0, rfl⟩ := okWide_slice Tryd.underlying63 (hval 0 63 v0 rfl rfl)
  obtain ⟨B0, m0, d0, ps0, e0, rr0⟩ := ry_of_trod (c := .slice A0 n0 c0) Tryd.underlying63 Tryd.underlying5 (by kernel_rfl) (by intro; rfl) hf0
  injection e0 with ea0 eb0 ec0
  subst ea0; subst eb0; subst ec0
  clear hA0 hval0
  have fT := tab_of (by kernel_rfl) hL (by kernel_rfl)
  have fP := names_of (by kernel_rfl) hL (by kernel_rfl)
  have fM := max_of hsh
  refine (walk _ _ _ _ W rr0 fT fP fM).mono fun e W' ⟨he, bel⟩ => ?_
  subst he
  exact ⟨_, rfl, _, _, _, [], _, _, hW', trodAll_mk1 (shut_bool Tryd.underlying4 _), (trodAll_cons_mk (Below.trod laidOut (by kernel_rfl) (of_decide_eq_true (by kernel_rfl)) k0 bel lt0) trodAll_mk0), names_stay hV bel, bel.frame _, fun h => by cases h⟩
theorem over : Rows.fnVertexWordsRow.holds Tryd.pinned (OpenSpec.ofChange Rows.fnVertexWordsSpec) :=
  OpenClaim.holds_of_wide 11 Tryd.f11 rfl rfl rfl rfl rfl rfl rfl ⟨rfl, rfl, rfl, rfl, rfl⟩ rfl rfl rfl rfl rfl (by kernel_rfl) Tryd.func11 (by kernel_rfl)
    (of_decide_eq_true (by kernel_rfl)) (by unfold Func.isWrapper; first | (rw [if_pos (by decide +kernel)]; kernel_rfl) | (rw [if_neg (by decide +kernel)]; exact ⟨rfl, rfl⟩))
    (fun os started H enc _ => lifted os started H enc)
/-- no parameter wants a stand-in; the program's own looks are off -/
theorem plain (f : FuncId) (fn : Func) (hf : Tryd.pinned.checked.prog.funcNamed "loop.example/g00869/laws.FnVertexWords" = some f) (hfn : Tryd.pinned.checked.prog.funcs[f]? = some fn) :
    false = Tryd.pinned.checked.prog.looks [] ∧ ∀ (j : Nat) t, fn.params[j]? = some t → Tryd.pinned.checked.prog.wantsStandIn t = false := by
  obtain rfl : f = 11 := Option.some.inj ((show Tryd.prog.funcNamed "loop.example/g00869/laws.FnVertexWords" = some 11 by kernel_rfl).symm.trans hf) |>.symm
  obtain rfl : fn = Tryd.f11 := (Option.some.inj (Tryd.func11.symm.trans hfn)).symm
  refine ⟨by kernel_rfl, fun j t ht => ?_⟩
  rw [Tryd.params11] at ht
  have hm := Array.mem_of_getElem? ht
  simp only [Array.mem_def, List.mem_cons, List.mem_nil_iff, or_false] at hm
  subst hm
  exact (show Tryd.prog.wantsStandIn 63 = false by kernel_rfl)
/-- the statement -/
theorem proved : Rows.FnVertexWordsCardSaid :=
  Claim7.holds_tied_plain_at .later [] _ _ _ _ over (fun _ h => by cases h) (by kernel_rfl) (fun _ h => by cases h) fnVertexWords_row_tie rfl ⟨rfl, rfl⟩ (by kernel_rfl) rfl plain (by kernel_rfl)
end Go.Proofs.YtkhkdnmpbfmmeaaDoor.fnVertexWords

