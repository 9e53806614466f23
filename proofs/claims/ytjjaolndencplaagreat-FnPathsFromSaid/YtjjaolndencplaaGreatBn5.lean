/- Texts that the proof reaches: Pts, Vis, Bk, LeadP, Bef, LoopP, BrkS, BrkF, Prd, Slf. -/
import Derived.Test.YtjjaolndencplaaGreatBn4
import Derived.Deep.RegionHeld3
import Derived.Shelf.SlSortCmp.Whole1
namespace Go.Proofs.YtjjaolndencplaaGreat
open Go.RowKit

theorem wpList_pushE2 {ops : Array Oper} {rest : List Oper} {o : Oper} {a : Act} {Q : Exit → Act → World → Prop} (hgd : o.guard = none) (s x : Operand)
    (ho : o.op = .call { callee := .builtin .append, args := #[s, x], argTypes := #[28, 28] })
    (w0 w : World) (H : Nat) (hH : w.heap.size = H) (lo : Nat) (v : Value) (E : List (List Int)) (hs : a.eval s = v) (hown : OLR w0 w lo v E) (y : Value) (ys : List Int) (hy : RIv w0 y ys ∨ OI 2 w lo y ys) (hx : a.eval x = .slice (some ⟨H, 0, none⟩) 1 1)
    (hn : E.length ≤ 4194304) (hlo : lo ≤ H)
    (h : ∀ v' w', OLR w0 w' lo v' (E ++ [ys]) → Below lo w w' → Chg (fun z => v.ownBlock = some z) w w' → wpList Tryz.prog ops Q rest (a.put o.dst v') w') : wpList Tryz.prog ops Q (o :: rest) a (w.alloc (.cells #[y] 27)) := by
  subst hH
  obtain ⟨i1, hi1, hy0, hy1, hy2⟩ := info_parts infoII
  obtain ⟨cs, h1, h2⟩ := hown
  have hl : cs.length = E.length := by have := row_len h1; omega
  have hba : Below w.heap.size w (w.alloc (.cells #[y] 27)) := below_alloc (Nat.le_refl _) (Below.refl _ _)
  have hya : y.oneCell' = true := by
    rcases hy with ⟨A, n, c, rfl, _⟩ | k
    · rfl
    · obtain ⟨A, c, rfl⟩ := k.form; rfl
  have r1 := row_below h1 hba
  refine wpList_push _ hgd s x 28 ho lo 27 i1 (.slice none 0 0) 24 Tryz.underlying28 hi1 hy0 hy1 hy2 rfl v E.length cs hs r1 w.heap.size y hx ((Box.new w _ _).cell 0) hya hn (by decide) (by simp; omega) ?_
  intro g cap w' r hg hat hlt
  have hc := Chg.of_grown hg
  have hb : Below lo w w' := (hba.mono hlo).trans (hc.below (by simp; omega) (fun z hz => (World.ownsRow.lt r1 z hz).1))
  refine h _ w' ⟨cs ++ [y], ?_, fun j hj => ?_⟩ hb (((Chg.refl (fun _ => False) w).alloc _).trans hc (fun _ h => h.elim) (fun _ h => h))
  · rw [List.length_append, List.length_singleton]; exact r
  · rw [List.length_append, List.length_singleton] at hj
    by_cases e : j < E.length
    · rw [gv_app_lt (by omega), gl_app_lt e]
      exact (h2 j e).imp id (fun k => (k.below hba).chg hc (fun b hb' hs' => own_ne (k.below hba) r1 (by decide) b hb' hs'))
    · obtain rfl : j = E.length := by omega
      rw [gl_app_eq, ← hl, gv_app_eq]
      exact hy.imp id (fun k => (k.below hba).chg hc (fun b hb' hs' => own_ne (k.below hba) r1 (by decide) b hb' hs'))
section
variable {w0 w w' : World} {lo lo' N b : Nat} {v : Value} {E : List (List Int)} {ls : List Bool}
theorem OLR.ne (h : OLR w0 w lo v E) {u : Value} (k : OB 4 w lo' u ls) : ∀ z, v.ownBlock = some z → u.ownBlock ≠ some z := by
  obtain ⟨cs, h1, _⟩ := h
  exact own_ne h1 k (by decide)
theorem OLR.neBox (h : OLR w0 w lo v E) {t : TypeId} {xs : Array Value} (hb : Box w b t xs) (hne : 27 ≠ t) : v.ownBlock ≠ some b := by
  obtain ⟨cs, h1, _⟩ := h
  exact row_nbox h1 hb hne
/-- a store into marks does not touch it -/
theorem OLR.mark (h : OLR w0 w lo v E) (k : OB 4 w lo' (.slice (some ⟨b, 0, none⟩) N N) ls) (i : Nat) (x : Value) : OLR w0 (w.setCell ⟨b, i, none⟩ x) lo v E := by
  obtain ⟨cs, h1, h2⟩ := h
  have hc := Chg.set (w := w) ⟨b, i, none⟩ x
  refine ⟨cs, row_chg h1 hc (fun z hz e => own_ne h1 k (by decide) z hz (by have h3 : z = b := e; rw [h3]; rfl)), fun j hj => (h2 j hj).imp id (fun o => o.chg hc (fun z hz e => own_ne o k (by decide) z hz (by have h3 : z = b := e; rw [h3]; rfl)))⟩
end
theorem PUp.keep {n : List (List Int)} {ins : List Bool} {N k : Nat} {ps : List (List Int)} {done done' : List Bool} (h : PUp n ins N k ps done) (hl : done'.length = N) (hd : ∀ u, gb done' u = true → gb done u = true) : PUp n ins N k ps done' :=
  { h with len := hl, done := fun u hu => h.done u (hd u hu) }
set_option maxRecDepth 100000 in
set_option maxHeartbeats 3200000 in
theorem specParts (A0 A1 C : Option Addr) (n0 c0 n1 c1 d N : Nat) (n : List (List Int)) (ins : List Bool) (w : World) (B : Nat) (hB : B ≤ w.heap.size) (hx : RII w A1 n1 c1 n) (hi : RB w C N d ins) (hn1 : n1 = N) (hN : N ≤ 256)
    (hE : ∀ x, x < N → (gl n x).length ≤ 16 ∧ ∀ j, j < (gl n x).length → ∃ m : Nat, gi (gl n x) j = (m : Int) ∧ m < N) :
    Calls Tryz.prog 56 #[.agg #[.slice A0 n0 c0, .slice A1 n1 c1], .slice C N d] w fun e w' => ∃ (A : Option Addr) (c : Nat) (ps : List (List Int)), e = .returned (.slice A ps.length c) ∧ RII w' A ps.length c ps ∧ (isParts (RW n ins) ps ∧ (∀ p, p ∈ ps → setB p (N : Int) = true) ∧ ps.length ≤ N) ∧ Below B w w' := by
  have i1 := hi.cap; have i2 := hi.top
  have HIL := Lib.hid hi.1
  have HE := Lib.hid hE
  have HN1 := Lib.hid hn1
  clear hE hn1
  have bx := (Box.new w 30 #[.slice A0 n0 c0, .slice A1 n1 c1]).alloc (.cells #[] 27)
  have hba : Below w.heap.size w (w.alloc (.cells #[.slice A0 n0 c0, .slice A1 n1 c1] 30)) := below_alloc (Nat.le_refl _) (Below.refl _ _)
  have hem : OLR w ((w.alloc (.cells #[.slice A0 n0 c0, .slice A1 n1 c1] 30)).alloc (.cells #[] 27)) (w.heap.size + 1) (.slice (some ⟨w.heap.size + 1, 0, none⟩) 0 0) [] := by
    have h := OLR.empty (w0 := w) (w := w.alloc (.cells #[.slice A0 n0 c0, .slice A1 n1 c1] 30)) (lo := w.heap.size + 1) (by simp)
    simpa using h
  have hwE : Below w.heap.size w ((w.alloc (.cells #[.slice A0 n0 c0, .slice A1 n1 c1] 30)).alloc (.cells #[] 27)) := below_alloc (Nat.le_refl _) hba
  have HZ : Hid (((w.alloc (.cells #[.slice A0 n0 c0, .slice A1 n1 c1] 30)).alloc (.cells #[] 27)).heap.size = w.heap.size + 2) := Lib.hid (by simp)
  have H0 := Lib.hid (PUp.start (n := n) (ins := ins) (N := N))
  clear hba
  go_enter Tryz.func56, Tryz.ntmps56
  go_wp2_with (refine wpList_makeB rfl (.tmp 12) rfl _ N rfl (by omega) ?_; intro w1 hown hb1; rw [HZ.out] at hown ⊢; have bx1 := bx.below hb1 bx.lt; have hem1 := hem.below hb1; replace hb1 := below_then hb1 hwE.size hwE; replace hown := hown.more (lo' := w.heap.size) (by omega); clear hwE bx hem)
  go_loopw [5, 7] (fun t i wr => ∃ (k : Nat) (ps : List (List Int)) (ls : List Bool), k ≤ N ∧ i = .int .i64 (k : Int) ∧ OLR w wr (w.heap.size + 1) t ps ∧ OB 4 wr w.heap.size (.slice (some ⟨w.heap.size + 2, 0, none⟩) N N) ls ∧ Hid (PUp n ins N k ps ls) ∧ Box wr w.heap.size 30 #[.slice A0 n0 c0, .slice A1 n1 c1] ∧ Below w.heap.size w wr) (fun _ i _ => N - (intOf i).toNat)
  case atStart => exact ⟨0, [], _, Nat.zero_le _, rfl, hem1, hown, H0, bx1, hb1⟩
  case round =>
    clear hem1 hown bx1 hb1
    obtain ⟨k, ps, ls, hk, rfl, ho, hob, HI, bX, hbr⟩ := hrel
    obtain ⟨At, ct, rfl⟩ := ho.form
    have q0 := bX.d0; have q1 := bX.d1
    have hll : ps.length ≤ 4194304 := by have := HI.out.few; omega
    have hbl := bX.lt
    have HLs := Lib.hid HI.out.len
    by_cases hlt : k < N
    · obtain ⟨bi, oi, hC, hci⟩ := (hi.keep (keeps_below hbr)).at_ hlt
      subst hC
      have hcd := hob.at_ (i := k) (by rw [HLs.out]; exact hlt)
      cases hin : gb ins k with
      | false =>
        have HIN := Lib.hid hin
        rw [hin] at hci
        clear hin
        go_wp2
        go_roundw
        case rel => exact ⟨k + 1, ps, ls, by omega, by go_num, ho, hob, Lib.hid (HI.out.pass (.inl HIN.out) HIL.out), bX, hbr⟩
        case measure => simp [intOf]; omega
      | true =>
        have HIN := Lib.hid hin
        rw [hin] at hci
        clear hin
        cases hdn : gb ls k with
        | true =>
          have HDN := Lib.hid hdn
          rw [hdn] at hcd
          clear hdn
          go_wp2
          go_roundw
          case rel => exact ⟨k + 1, ps, ls, by omega, by go_num, ho, hob, Lib.hid (HI.out.pass (.inr (.inl HDN.out)) HIL.out), bX, hbr⟩
          case measure => simp [intOf]; omega
        | false =>
          rw [hdn] at hcd
          clear hdn
          go_wp2_with fail
          refine (specPart _ _ _ _ _ _ _ _ _ k n ins _ _ (Nat.le_refl _) (hx.keep (keeps_below hbr)) (hi.keep (keeps_below hbr)) HN1.out hN hlt HIN.out HE.out).mono ?_; rintro e w2 ⟨vp, rfl, hp2, hb2⟩
          have bX2 := bX.below hb2 bX.lt
          have hw2 := below_then hb2 hbr.size hbr
          have ho2 := ho.below hb2
          have hob2 := hob.below hb2
          replace hp2 := hp2.more (lo' := w.heap.size + 1) hbl
          have HPd : Hid (partL n ins N k = partL n ins N k) := Lib.hid rfl
          obtain ⟨P, hP⟩ : ∃ P, partL n ins N k = P := ⟨_, rfl⟩
          rw [hP] at hp2
          have HPE := Lib.hid hP
          have HPS : Hid (setB P (N : Int) = true) := Lib.hid (by rw [← hP]; exact part_set)
          clear hP HPd q0 q1 hci hcd hb2
          obtain ⟨Ap, cp, rfl⟩ := hp2.form
          have hR := hp2.reads
          have r1 := hR.cap; have r2 := hR.top
          go_wp2
          go_loopw [9] (fun i wi => ∃ (j : Nat) (l2 : List Bool), j ≤ P.length ∧ i = .int .i64 (j : Int) ∧ OLR w wi (w.heap.size + 1) (.slice At ps.length ct) ps ∧ OB 4 wi w.heap.size (.slice (some ⟨w.heap.size + 2, 0, none⟩) N N) l2 ∧ Hid (l2.length = N ∧ ∀ u, gb l2 u = true → gb ls u = true ∨ (u : Int) ∈ P) ∧ OI 2 wi (w.heap.size + 1) (.slice Ap P.length cp) P ∧ Box wi w.heap.size 30 #[.slice A0 n0 c0, .slice A1 n1 c1] ∧ Below w.heap.size w wi) (fun i _ => P.length - (intOf i).toNat)
          case atStart => exact ⟨0, ls, Nat.zero_le _, rfl, ho2, hob2, Lib.hid ⟨HLs.out, fun u hu => .inl hu⟩, hp2, bX2, hw2⟩
          case round =>
            clear ho2 hob2 hp2 bX2 hw2 ho hob bX hR
            obtain ⟨j, l2, hj, rfl, ho3, hob3, HJ, hp3, bX3, hw3⟩ := hrel
            have hR3 := hp3.reads
            have r5 := bX3.lt
            by_cases hjl : j < P.length
            · obtain ⟨u, hu, hun⟩ := set_nat HPS.out hjl
              have HUM : Hid ((u : Int) ∈ P) := Lib.hid (by rw [← hu]; exact gi_mem hjl)
              obtain ⟨bp, op, hA, hcp⟩ := hR3.at_ hjl
              rw [hu] at hcp
              have hcL := hob3.at_ (i := u) (by rw [HJ.out.1]; exact hun)
              have hfL := hob3.hot (i := u) (by rw [HJ.out.1])
              have hoS := ho3.mark hob3 u (.bool true)
              have hobS := hob3.set_ (i := u) (by rw [HJ.out.1]) true
              have hpS := hp3.chg (Chg.set (w := wr) ⟨w.heap.size + 2, u, none⟩ (.bool true)) (fun z hz e => own_ne hp3 hob3 (by decide) z hz (by have h3 : z = w.heap.size + 2 := e; rw [h3]; rfl))
              have bXS := bX3.far (p := ⟨w.heap.size + 2, u, none⟩) (show w.heap.size ≠ w.heap.size + 2 by omega) (.bool true)
              have hwS := below_set (p := ⟨w.heap.size + 2, u, none⟩) (u := .bool true) (by show w.heap.size ≤ w.heap.size + 2; omega) hw3
              subst hA
              clear hu
              go_wp2
              go_roundw
              case rel =>
                refine ⟨j + 1, l2.set u true, by omega, by go_num, hoS, hobS, Lib.hid ⟨by rw [List.length_set]; exact HJ.out.1, fun y hy => ?_⟩, hpS, bXS, hwS⟩
                rcases gb_setT hy with rfl | k1
                · exact .inr HUM.out
                · exact HJ.out.2 y k1
              case measure => simp [intOf]; omega
            · obtain rfl : j = P.length := by omega
              by_cases hP0 : P.length = 0
              · have HP0 := Lib.hid hP0
                have h0 : ¬ (0 : Int) < (P.length : Int) := by omega
                clear hP0
                go_wp2
                have hPn : P = [] := List.eq_nil_of_length_eq_zero HP0.out
                exact ⟨⟨k + 1, ps, l2, by omega, by go_num, ho3, hob3, Lib.hid ((HI.out.keep HJ.out.1 (fun u hu => (HJ.out.2 u hu).resolve_right (by rw [hPn]; simp))).pass (.inr (.inr (by rw [HPE.out]; exact hPn))) HIL.out), bX3, hw3⟩, by simp [intOf]; omega⟩
              · have HP0 := Lib.hid hP0
                have h0 : (0 : Int) < (P.length : Int) := by omega
                clear hP0
                go_wp2_with (at_builtin; refine wpList_pushE2 rfl (.tmp 50) (.tmp 52) rfl w wr wr.heap.size rfl (w.heap.size + 1) (.slice At ps.length ct) ps rfl ho3 (.slice Ap P.length cp) P (.inr hp3) rfl hll r5 ?_; intro v4 w4 ho4 hb4 hc4)
                have hob4 := row_chg hob3 hc4 (fun z hz e => ho3.ne hob3 z e hz)
                have bX4 : Box w4 w.heap.size 30 #[.slice A0 n0 c0, .slice A1 n1 c1] := (hc4.block _ bX3.lt (fun e => ho3.neBox bX3 (by decide) e)).trans bX3
                have HT := Lib.hid (HI.out.take HIL.out (by rw [HPE.out]; exact fun e => HP0.out (by rw [e]; rfl)) HJ.out.1 (by rw [HPE.out]; exact HJ.out.2))
                exact ⟨⟨k + 1, ps ++ [P], l2, by omega, by go_num, ho4, hob4, Lib.hid (by have h7 := HT.out; rw [HPE.out] at h7; exact h7), bX4, hw3.trans (hb4.mono (by omega))⟩, by simp [intOf]; omega⟩
    · obtain rfl : k = N := by omega
      have hR := ho.reads (keeps_below hbr)
      have HF := Lib.hid (HI.out.fin HIL.out (Nat.le_refl _))
      go_wp2
      go_ret
      exact ⟨_, _, ps, rfl, hR, ⟨HF.out, HI.out.sets, HI.out.few⟩, hbr.mono hB⟩
end Go.Proofs.YtjjaolndencplaaGreat
namespace Go.Proofs.YtjjaolndencplaaGreat
open Go.RowKit

def nts (L : List Nat) : List Int := L.map fun (v : Nat) => (v : Int)
theorem nts_app (a b : List Nat) : nts (a ++ b) = nts a ++ nts b := by unfold nts; rw [List.map_append]
theorem nts_len (a : List Nat) : (nts a).length = a.length := by simp [nts]
theorem Box.neT {w : World} {a b : Nat} {t t' : TypeId} {xs ys : Array Value} (h : Box w a t xs) (k : Box w b t' ys) (hne : t ≠ t') : a ≠ b := by
  rintro rfl
  unfold Box at h k
  rw [h] at k
  injection k with k
  injection k with _ e
  exact hne e
/-- what the search works on: marks in a box, what is within, itself, the row that it fills -/
structure VS (w : World) (lk lo N bd bk bw bv bo : Nat) (wv fv : Value) (ls : List Bool) (L : List Int) : Prop where
  bD : Box w bd 47 #[.slice (some ⟨bk, 0, none⟩) N N]
  oK : OB 4 w lk (.slice (some ⟨bk, 0, none⟩) N N) ls
  bW : Box w bw 47 #[wv]
  bV : Box w bv 80 #[fv]
  oL : ∃ A c, Box w bo 27 #[.slice A L.length c] ∧ OI 2 w lo (.slice A L.length c) L
  low : lo ≤ bo
section
variable {w w' : World} {lk lo N bd bk bw bv bo : Nat} {wv fv : Value} {ls : List Bool} {L : List Int}
theorem VS.on (h : VS w lk lo N bd bk bw bv bo wv fv ls L) (hb : Below w.heap.size w w') : VS w' lk lo N bd bk bw bv bo wv fv ls L :=
  ⟨h.bD.below hb h.bD.lt, h.oK.below hb, h.bW.below hb h.bW.lt, h.bV.below hb h.bV.lt, by
    obtain ⟨A, c, h1, h2⟩ := h.oL
    exact ⟨A, c, h1.below hb h1.lt, h2.below hb⟩, h.low⟩
/-- a mark is set -/
theorem VS.mark (h : VS w lk lo N bd bk bw bv bo wv fv ls L) (hl : ls.length = N) (u : Nat) : VS (w.setCell ⟨bk, u, none⟩ (.bool true)) lk lo N bd bk bw bv bo wv fv (ls.set u true) L := by
  have hk : ∀ {b : Nat} {t : TypeId} {xs : Array Value}, Box w b t xs → 4 ≠ t → b ≠ bk := fun hb hne e => row_nbox h.oK hb hne (by rw [e]; rfl)
  refine ⟨h.bD.far (p := ⟨bk, u, none⟩) (hk h.bD (by decide)) _, h.oK.set_ (by rw [hl]) true, h.bW.far (p := ⟨bk, u, none⟩) (hk h.bW (by decide)) _, h.bV.far (p := ⟨bk, u, none⟩) (hk h.bV (by decide)) _, ?_, h.low⟩
  obtain ⟨A, c, h1, h2⟩ := h.oL
  exact ⟨A, c, h1.far (p := ⟨bk, u, none⟩) (hk h1 (by decide)) _, h2.chg (Chg.set (w := w) ⟨bk, u, none⟩ (.bool true)) (fun z hz e => own_ne h2 h.oK (by decide) z hz (by have h3 : z = bk := e; rw [h3]; rfl))⟩
end
theorem tell2_enter (args : Array Value) (w : World) : (callFunc 66 args).run Tryz.prog w = .ok (.enter 66 args) w := by kernel_rfl
set_option maxRecDepth 100000 in
theorem tell2 (w : World) (lk lo N bd bk bw bv bo : Nat) (wv fv : Value) (ls : List Bool) (L : List Int) (x : Nat) (h : VS w lk lo N bd bk bw bv bo wv fv ls L) (hll : L.length ≤ 4194304) (hlo : lo ≤ w.heap.size) :
    Calls Tryz.prog 66 #[.int .i64 (x : Int), .pointer (some ⟨bo, 0, none⟩)] w fun e w' => e = .returned (.tuple #[]) ∧ VS w' lk lo N bd bk bw bv bo wv fv ls (L ++ [(x : Int)]) ∧ Below lo w w' := by
  obtain ⟨A, c, hb, ho⟩ := h.oL
  have HV := Lib.hid h
  have q0 : w.cell? ⟨bo, 0, none⟩ = some (.slice A L.length c) := hb.cell 0
  clear h
  go_enter Tryz.func66, Tryz.ntmps66
  go_wp2_with (at_builtin; refine wpList_pushI rfl (.tmp 3) (.tmp 5) rfl w lo (.slice A L.length c) L rfl ho (x : Int) rfl hll hlo ?_; intro v2 w2 ho2 hb2 hc2 hat2; have hbo2 : Box w2 bo 27 #[.slice A L.length c] := (hc2.block _ hb.lt (fun e => row_nbox ho hb (by decide) e)).trans hb; have k0 : w2.cell? ⟨bo, 0, none⟩ = some (.slice A L.length c) := hbo2.cell 0; have f0 := hbo2.hot 0; obtain ⟨A2, c2, hv2⟩ := ho2.form; rw [List.length_append, List.length_singleton] at hv2; subst hv2)
  have H := HV.out
  have e9 : (L ++ [(x : Int)]).length = L.length + 1 := by simp
  have ne : ∀ {b : Nat} {t : TypeId} {xs : Array Value}, Box w b t xs → 27 ≠ t → b ≠ bo := fun hb' hne e => Box.neT hb hb' hne e.symm
  have kp : ∀ {b : Nat} {t : TypeId} {xs : Array Value}, Box w b t xs → 2 ≠ t → 27 ≠ t → Box (w2.setCell ⟨bo, 0, none⟩ (.slice A2 (L.length + 1) c2)) b t xs := fun hb' h1 h2 => Box.far (p := ⟨bo, 0, none⟩) ((hc2.block _ hb'.lt (fun e => row_nbox ho hb' h1 e)).trans hb') (ne hb' h2) _
  have hcB := Chg.set (w := w2) ⟨bo, 0, none⟩ (.slice A2 (L.length + 1) c2)
  have hoF := ho2.chg hcB (fun z hz e => row_nbox ho2 hbo2 (by decide) (by have h3 : z = bo := e; rw [hz, h3]))
  have hoK2 := row_chg H.oK hc2 (fun z hz e => own_ne ho H.oK (by decide) z e hz)
  have hoKF := row_chg hoK2 hcB (fun z hz e => row_nbox hoK2 hbo2 (by decide) (by have h3 : z = bo := e; rw [hz, h3]))
  have hbF : Below lo w (w2.setCell ⟨bo, 0, none⟩ (.slice A2 (L.length + 1) c2)) := below_set (by show lo ≤ bo; exact H.low) hb2
  go_end0
  exact ⟨rfl, ⟨kp H.bD (by decide) (by decide), hoKF, kp H.bW (by decide) (by decide), kp H.bV (by decide) (by decide), ⟨A2, c2, by rw [e9]; exact hbo2.set_ 0 _, by rw [e9]; exact hoF⟩, H.low⟩, hbF⟩
theorem tell3_enter (args : Array Value) (w : World) : (callFunc 67 args).run Tryz.prog w = .ok (.enter 67 args) w := by kernel_rfl
set_option maxRecDepth 100000 in
theorem tell3 (w : World) (lk lo N bd bk bw bv bo : Nat) (wv fv : Value) (ls : List Bool) (L : List Int) (x : Nat) (h : VS w lk lo N bd bk bw bv bo wv fv ls L) (hll : L.length ≤ 4194304) (hlo : lo ≤ w.heap.size) :
    Calls Tryz.prog 67 #[.int .i64 (x : Int), .pointer (some ⟨bo, 0, none⟩)] w fun e w' => e = .returned (.tuple #[]) ∧ VS w' lk lo N bd bk bw bv bo wv fv ls (L ++ [(x : Int)]) ∧ Below lo w w' := by
  obtain ⟨A, c, hb, ho⟩ := h.oL
  have HV := Lib.hid h
  have q0 : w.cell? ⟨bo, 0, none⟩ = some (.slice A L.length c) := hb.cell 0
  clear h
  go_enter Tryz.func67, Tryz.ntmps67
  go_wp2_with (at_builtin; refine wpList_pushI rfl (.tmp 3) (.tmp 5) rfl w lo (.slice A L.length c) L rfl ho (x : Int) rfl hll hlo ?_; intro v2 w2 ho2 hb2 hc2 hat2; have hbo2 : Box w2 bo 27 #[.slice A L.length c] := (hc2.block _ hb.lt (fun e => row_nbox ho hb (by decide) e)).trans hb; have k0 : w2.cell? ⟨bo, 0, none⟩ = some (.slice A L.length c) := hbo2.cell 0; have f0 := hbo2.hot 0; obtain ⟨A2, c2, hv2⟩ := ho2.form; rw [List.length_append, List.length_singleton] at hv2; subst hv2)
  have H := HV.out
  have e9 : (L ++ [(x : Int)]).length = L.length + 1 := by simp
  have ne : ∀ {b : Nat} {t : TypeId} {xs : Array Value}, Box w b t xs → 27 ≠ t → b ≠ bo := fun hb' hne e => Box.neT hb hb' hne e.symm
  have kp : ∀ {b : Nat} {t : TypeId} {xs : Array Value}, Box w b t xs → 2 ≠ t → 27 ≠ t → Box (w2.setCell ⟨bo, 0, none⟩ (.slice A2 (L.length + 1) c2)) b t xs := fun hb' h1 h2 => Box.far (p := ⟨bo, 0, none⟩) ((hc2.block _ hb'.lt (fun e => row_nbox ho hb' h1 e)).trans hb') (ne hb' h2) _
  have hcB := Chg.set (w := w2) ⟨bo, 0, none⟩ (.slice A2 (L.length + 1) c2)
  have hoF := ho2.chg hcB (fun z hz e => row_nbox ho2 hbo2 (by decide) (by have h3 : z = bo := e; rw [hz, h3]))
  have hoK2 := row_chg H.oK hc2 (fun z hz e => own_ne ho H.oK (by decide) z e hz)
  have hoKF := row_chg hoK2 hcB (fun z hz e => row_nbox hoK2 hbo2 (by decide) (by have h3 : z = bo := e; rw [hz, h3]))
  have hbF : Below lo w (w2.setCell ⟨bo, 0, none⟩ (.slice A2 (L.length + 1) c2)) := below_set (by show lo ≤ bo; exact H.low) hb2
  go_end0
  exact ⟨rfl, ⟨kp H.bD (by decide) (by decide), hoKF, kp H.bW (by decide) (by decide), kp H.bV (by decide) (by decide), ⟨A2, c2, by rw [e9]; exact hbo2.set_ 0 _, by rw [e9]; exact hoF⟩, H.low⟩, hbF⟩
/-- what turns: the marks, and what is new -/
def Fr (bk lo : Nat) (w w' : World) : Prop := Chg (fun z => z = bk ∨ lo ≤ z) w w'
theorem Fr.refl (bk lo : Nat) (w : World) : Fr bk lo w w := Chg.refl _ w
theorem Fr.then {bk lo : Nat} {a b c : World} (h : Fr bk lo a b) (k : Fr bk lo b c) : Fr bk lo a c := Chg.trans h k (fun _ h => h) (fun _ h => h)
theorem Fr.of {bk lo : Nat} {w w' : World} (h : Below lo w w') : Fr bk lo w w' := ⟨h.os, h.tape, h.output, h.size, fun k _ hk => h.block k (by
  by_cases e : lo ≤ k
  · exact absurd (.inr e) hk
  · omega)⟩
theorem Fr.cell {bk : Nat} {w w' : World} (h : Fr bk w.heap.size w w') {a : Addr} {v : Value} (hc : w.cell? a = some v) (hne : a.block ≠ bk) : w'.cell? a = some v := by
  have hlt := World.block_lt_of_cell? w _ hc
  exact (World.cell?_of_block (h.block a.block hlt (fun e => e.elim hne (fun k => by omega)))).trans hc
theorem Dfs.cong {R : Nat → Nat → Prop} {D D' : Nat → Prop} {v : Nat} {L : List Nat} (h : ∀ u, D u ↔ D' u) (k : Dfs R D v L) : Dfs R D' v L := by
  have e : D = D' := funext fun u => propext (h u)
  rw [← e]; exact k
theorem visit_enter (args : Array Value) (w : World) : (callFunc 65 args).run Tryz.prog w = .ok (.enter 65 args) w := by kernel_rfl
set_option maxRecDepth 100000 in
set_option maxHeartbeats 3200000 in
theorem visitC (w0 : World) (lk N bd bk bw bv bo : Nat) (Cw At : Option Addr) (dw ct : Nat) (E : List (List Int)) (ins : List Bool) (ft : FuncId) (hN : N ≤ 256)
    (hx : RII w0 At N ct E) (hi : RB w0 Cw N dw ins) (hE : ∀ x, x < N → ∀ j, j < (gl E x).length → ∃ m : Nat, gi (gl E x) j = (m : Int) ∧ m < N)
    (hne : ∀ (a : Addr) (u : Value), w0.cell? a = some u → (∀ b, u ≠ .bool b) → a.block ≠ bk) (hCw : ∀ b o, Cw = some ⟨b, o, none⟩ → b ≠ bk)
    (hft : ∀ (args : Array Value) (w : World), (callFunc ft args).run Tryz.prog w = .ok (.enter ft args) w)
    (htell : ∀ (w : World) (ls : List Bool) (L : List Int) (x : Nat), VS w lk w0.heap.size N bd bk bw bv bo (.slice Cw N dw) (.func (.func 65) #[] #[.pointer (some ⟨bd, 0, none⟩), .pointer (some ⟨bw, 0, none⟩), .pointer (some ⟨bv, 0, none⟩)]) ls L → L.length ≤ 4194304 → w0.heap.size ≤ w.heap.size →
      Calls Tryz.prog ft (#[.int .i64 (x : Int)] ++ #[.pointer (some ⟨bo, 0, none⟩)]) w fun e w' => e = .returned (.tuple #[]) ∧ VS w' lk w0.heap.size N bd bk bw bv bo (.slice Cw N dw) (.func (.func 65) #[] #[.pointer (some ⟨bd, 0, none⟩), .pointer (some ⟨bw, 0, none⟩), .pointer (some ⟨bv, 0, none⟩)]) ls (L ++ [(x : Int)]) ∧ Fr bk w0.heap.size w w') :
    ∀ (M : Nat) (w : World) (ls : List Bool) (L : List Int) (v : Nat), cntF ls ≤ M → Fr bk w0.heap.size w0 w → VS w lk w0.heap.size N bd bk bw bv bo (.slice Cw N dw) (.func (.func 65) #[] #[.pointer (some ⟨bd, 0, none⟩), .pointer (some ⟨bw, 0, none⟩), .pointer (some ⟨bv, 0, none⟩)]) ls L → ls.length = N → v < N → gb ins v = true → gb ls v = false → L.length + cntF ls ≤ 4194304 →
      Calls Tryz.prog 65 #[.int .i64 (v : Int), .slice At N ct, .func (.func ft) #[] #[.pointer (some ⟨bo, 0, none⟩)], .pointer (some ⟨bd, 0, none⟩), .pointer (some ⟨bw, 0, none⟩), .pointer (some ⟨bv, 0, none⟩)] w fun e w' => e = .returned (.tuple #[]) ∧ ∃ (ls' : List Bool) (K : List Nat), Dfs (RW E ins) (fun u => gb ls u = true) v K ∧ (ls'.length = N ∧ (∀ u, gb ls' u = true ↔ gb ls u = true ∨ u ∈ K) ∧ K.length + cntF ls' = cntF ls) ∧ VS w' lk w0.heap.size N bd bk bw bv bo (.slice Cw N dw) (.func (.func 65) #[] #[.pointer (some ⟨bd, 0, none⟩), .pointer (some ⟨bw, 0, none⟩), .pointer (some ⟨bv, 0, none⟩)]) ls' (L ++ nts K) ∧ Fr bk w0.heap.size w w' := by
  intro M
  induction M with
  | zero =>
    intro w ls L v hM _ _ hl hv _ hm _
    have := cntF_set (ms := ls) (i := v) (by rw [hl]; exact hv) hm
    omega
  | succ M IH =>
    intro w ls L v hM hw hV hl hv hiv hm hL
    have HIH := Lib.hid IH
    have HT := Lib.hid htell
    have HE := Lib.hid hE
    have HV := Lib.hid hV
    have HL := Lib.hid hl
    have HM := Lib.hid hm
    have HIV := Lib.hid hiv
    have hcs := cntF_set (ms := ls) (i := v) (by rw [hl]; exact hv) hm
    have HCS := Lib.hid hcs
    have HMM : Hid (cntF (ls.set v true) ≤ M) := Lib.hid (by omega)
    have HLL := Lib.hid hL
    have hcm := hV.oK.at_ (i := v) (by rw [hl]; exact hv)
    rw [hm] at hcm
    have hfm := hV.oK.hot (i := v) (by rw [hl])
    have qd : w.cell? ⟨bd, 0, none⟩ = some (.slice (some ⟨bk, 0, none⟩) N N) := hV.bD.cell 0
    obtain ⟨bE, oE, A', n', c', hAt, hcE, hrE⟩ := hx.at_ hv
    subst hAt
    have r1 := hrE.cap; have r2 := hrE.top
    have HRL := Lib.hid hrE.len
    have V1 := hV.mark hl v
    have hb1 : Fr bk w0.heap.size w (w.setCell ⟨bk, v, none⟩ (.bool true)) := Chg.trans (Chg.refl _ w) (Chg.set (w := w) ⟨bk, v, none⟩ (.bool true)) (fun _ h => h) (fun _ h => .inl h)
    have hw1 : Fr bk w0.heap.size w0 (w.setCell ⟨bk, v, none⟩ (.bool true)) := hw.then hb1
    have hneE := hne _ _ hcE (by simp)
    have hcE1 := hw.cell hcE hneE
    have hcE2 := hw1.cell hcE hneE
    have HNE := Lib.hid hne
    have HCW := Lib.hid hCw
    have hsz := hw.size
    clear IH htell hE hl hm hiv hcs hM hL hV hne hCw hneE
    go_enter Tryz.func65, Tryz.ntmps65
    go_wp2
    go_loopw [19] (fun i wr => ∃ (j : Nat) (l1 : List Bool) (K : List Nat), j ≤ n' ∧ i = .int .i64 (j : Int) ∧ VS wr lk w0.heap.size N bd bk bw bv bo (.slice Cw N dw) (.func (.func 65) #[] #[.pointer (some ⟨bd, 0, none⟩), .pointer (some ⟨bw, 0, none⟩), .pointer (some ⟨bv, 0, none⟩)]) l1 (L ++ nts K) ∧ Hid (DfsI (RW E ins) (fun u => gb ls u = true) v K ∧ (l1.length = N ∧ (∀ u, gb l1 u = true ↔ (gb ls u = true ∨ u = v) ∨ u ∈ K) ∧ K.length + cntF l1 + 1 = cntF ls) ∧ ∀ i, i < j → ∀ u : Nat, gi (gl E v) i = (u : Int) → gb ins u = true → gb l1 u = true) ∧ Fr bk w0.heap.size w0 wr ∧ Fr bk w0.heap.size w wr) (fun i _ => n' - (intOf i).toNat)
    case atStart => exact ⟨0, ls.set v true, [], Nat.zero_le _, rfl, by simpa [nts] using V1, Lib.hid ⟨DfsI.nil _ _ _, ⟨by rw [List.length_set]; exact HL.out, fun u => ⟨fun h => .inl ((gb_setT h).symm), fun h => by
      rcases h with (h | h) | h
      · exact gb_setK h
      · rw [h]; exact gb_setS (by rw [HL.out]; exact hv)
      · cases h⟩, by have := HCS.out; simp; omega⟩, fun i h => absurd h (by omega)⟩, hw1, hb1⟩
    case round =>
      clear V1 hw1 hb1 hcE1 hcE2 qd hcm hfm
      obtain ⟨j, l1, K, hj, rfl, V, HI, hwr, hbr⟩ := hrel
      have qd : wr.cell? ⟨bd, 0, none⟩ = some (.slice (some ⟨bk, 0, none⟩) N N) := V.bD.cell 0
      have qw : wr.cell? ⟨bw, 0, none⟩ = some (.slice Cw N dw) := V.bW.cell 0
      have qv : wr.cell? ⟨bv, 0, none⟩ = some (.func (.func 65) #[] #[.pointer (some ⟨bd, 0, none⟩), .pointer (some ⟨bw, 0, none⟩), .pointer (some ⟨bv, 0, none⟩)]) := V.bV.cell 0
      by_cases hlt : j < n'
      · obtain ⟨bj, oj, hA', hcj0⟩ := hrE.at_ hlt
        subst hA'
        have hcj := hwr.cell hcj0 (HNE.out _ _ hcj0 (by simp))
        obtain ⟨u, hu, hun⟩ := HE.out v hv j (by rw [HRL.out]; exact hlt)
        have HU := Lib.hid hu
        rw [hu] at hcj
        obtain ⟨bi, oi, hC, hci0⟩ := hi.at_ hun
        have hci := hwr.cell hci0 (HCW.out _ _ hC)
        subst hC
        have hcu := V.oK.at_ (i := u) (by rw [HI.out.2.1.1]; exact hun)
        have HJ : Hid (j < (gl E v).length) := Lib.hid (by rw [HRL.out]; exact hlt)
        clear hu
        cases hin : gb ins u with
        | false =>
          have HIN := Lib.hid hin
          rw [hin] at hci
          clear hin
          go_wp2
          go_roundw
          case rel => exact ⟨j + 1, l1, K, by omega, by go_num, V, Lib.hid ⟨HI.out.1, HI.out.2.1, fun i hi' y hy hiy => by
            by_cases e : i = j
            · subst e
              have : y = u := by have := HU.out; omega
              rw [this, HIN.out] at hiy; cases hiy
            · exact HI.out.2.2 i (by omega) y hy hiy⟩, hwr, hbr⟩
          case measure => simp [intOf]; omega
        | true =>
          have HIN := Lib.hid hin
          rw [hin] at hci
          clear hin
          cases hou : gb l1 u with
          | true =>
            have HOU := Lib.hid hou
            rw [hou] at hcu
            clear hou
            go_wp2
            go_roundw
            case rel => exact ⟨j + 1, l1, K, by omega, by go_num, V, Lib.hid ⟨HI.out.1, HI.out.2.1, fun i hi' y hy hiy => by
              by_cases e : i = j
              · subst e
                have : y = u := by have := HU.out; omega
                rw [this]; exact HOU.out
              · exact HI.out.2.2 i (by omega) y hy hiy⟩, hwr, hbr⟩
            case measure => simp [intOf]; omega
          | false =>
            have HOU := Lib.hid hou
            rw [hou] at hcu
            have hcall := HIH.out wr l1 (L ++ nts K) u (by have h1 := HI.out.2.1.2.2; have h2 := HMM.out; have h3 := HCS.out; omega) hwr V HI.out.2.1.1 hun HIN.out hou (by have h1 := HI.out.2.1.2.2; have h2 := HLL.out; rw [List.length_append, nts_len]; omega)
            have hve := visit_enter
            clear hou
            go_wp2_with fail
            refine hcall.mono ?_; rintro e w2 ⟨rfl, l2, K2, hD2, hl2, V2, hb2⟩
            have HD2 := Lib.hid hD2
            have HL2 := Lib.hid hl2
            have hwr2 := hwr.then hb2
            have hbr2 := hbr.then hb2
            clear hcall hD2 hl2 qd qw qv hcj hci hcu V
            go_wp2
            go_roundw
            case rel =>
              refine ⟨j + 1, l2, K ++ K2, by omega, by go_num, by rw [nts_app, ← List.append_assoc]; exact V2, Lib.hid ⟨?_, ⟨HL2.out.1, fun y => ?_, ?_⟩, fun i hi' y hy hiy => ?_⟩, hwr2, hbr2⟩
              · refine HI.out.1.child ⟨HIV.out, HIN.out, by rw [← HU.out]; exact gi_mem HJ.out⟩ (HD2.out.cong fun y => (HI.out.2.1.2.1 y))
              · rw [HL2.out.2.1 y, HI.out.2.1.2.1 y, List.mem_append, or_assoc]
              · have h1 := HL2.out.2.2; have h2 := HI.out.2.1.2.2
                rw [List.length_append]; omega
              · by_cases e : i = j
                · subst e
                  have : y = u := by have := HU.out; omega
                  rw [this]
                  exact (HL2.out.2.1 u).2 (.inr HD2.out.mem)
                · exact (HL2.out.2.1 y).2 (.inl (HI.out.2.2 i (by omega) y hy hiy))
            case measure => simp [intOf]; omega
      · obtain rfl : j = n' := by omega
        have htl := HT.out wr l1 (L ++ nts K) v V (by have h1 := HI.out.2.1.2.2; have h2 := HLL.out; rw [List.length_append, nts_len]; omega) (Nat.le_trans hsz hbr.size)
        go_wp2_with fail
        refine htl.mono ?_; rintro e w2 ⟨rfl, V2, hb2⟩
        go_wp2
        go_end0
        refine ⟨rfl, l1, K ++ [v], HI.out.1.fin (by rw [HM.out]; decide) (fun y hy => (HI.out.2.1.2.1 y).1 ?_), ⟨HI.out.2.1.1, fun y => ?_, ?_⟩, ?_, hbr.then hb2⟩
        · obtain ⟨i, hi', e⟩ := mem_gi hy.2.2
          exact HI.out.2.2 i (by rw [HRL.out] at hi'; exact hi') y e hy.2.1
        · rw [HI.out.2.1.2.1 y, List.mem_append, List.mem_singleton]
          constructor
          · rintro ((h | h) | h)
            · exact .inl h
            · exact .inr (.inr h)
            · exact .inr (.inl h)
          · rintro (h | h | h)
            · exact .inl (.inl h)
            · exact .inr h
            · exact .inl (.inr h)
        · have h1 := HI.out.2.1.2.2
          rw [List.length_append, List.length_singleton]; omega
        · rw [nts_app, ← List.append_assoc]; exact V2
end Go.Proofs.YtjjaolndencplaaGreat
namespace Go.Proofs.YtjjaolndencplaaGreat
open Go.RowKit

theorem apart_growB {u v x : Value} {H : Nat} (h : Apart u x) (hat : ∀ b, v.ownBlock = some b → u.ownBlock = some b ∨ H ≤ b) (hx : ∀ b, x.ownBlock = some b → b < H) : Apart v x := by
  unfold Apart
  cases e : v.ownBlock with
  | none => exact .inl rfl
  | some b =>
    right
    intro e2
    rcases hat b e with h1 | h1
    · exact apart_not h h1 e2.symm
    · have := hx b e2.symm; omega
/-- rows of rows of the call's own, no two in one block -/
def BK (w : World) (lo N bb : Nat) (cs : List Value) (f : Nat → List Int) : Prop := w.ownsRow lo 27 1 (.slice (some ⟨bb, 0, none⟩) N N) N cs ∧ OL 2 w lo cs f ∧ Dis cs
section
variable {w w' : World} {lo N bb : Nat} {cs : List Value} {f g : Nat → List Int}
theorem BK.len (h : BK w lo N bb cs f) : cs.length = N := by have := row_len h.1; omega
theorem BK.on (h : BK w lo N bb cs f) (hb : Below w.heap.size w w') : BK w' lo N bb cs f := ⟨row_below h.1 hb, h.2.1.below hb, h.2.2⟩
theorem BK.same (h : BK w lo N bb cs f) (e : ∀ i, i < N → f i = g i) : BK w lo N bb cs g := ⟨h.1, h.2.1.congr (fun i hi => e i (by rw [← h.len]; exact hi)), h.2.2⟩
/-- one number is appended to the row of u, and the row is put back -/
theorem BK.push (h : BK w lo N bb cs f) {u : Nat} (hu : u < N) {v' : Value} {y : Int} (hc : Chg (fun z => (gv cs u).ownBlock = some z) w w') (hv : OI 2 w' lo v' (f u ++ [y]))
    (hat : ∀ b, v'.ownBlock = some b → (gv cs u).ownBlock = some b ∨ w.heap.size ≤ b) : BK (w'.setCell ⟨bb, u, none⟩ v') lo N bb (cs.set u v') (fun i => if u = i then f u ++ [y] else f i) := by
  obtain ⟨h1, h2, h3⟩ := h
  have hl : cs.length = N := by have := row_len h1; omega
  have k1 := row_chg h1 hc (fun z hz e => own_ne (h2 u (by omega)) h1 (by decide) z e hz)
  have hcS := Chg.set (w := w') ⟨bb, u, none⟩ v'
  have st : ∀ {x : Value} {l : List Int}, OI 2 w' lo x l → OI 2 (w'.setCell ⟨bb, u, none⟩ v') lo x l := fun hx => hx.chg hcS (fun z hz e => own_ne hx k1 (by decide) z hz (by have h3 : z = bb := e; rw [h3]; rfl))
  refine ⟨(k1.stored u v').1, ?_, Dis.set_ h3 (by omega) (fun i hi hne => ?_)⟩
  · intro i hi
    rw [List.length_set] at hi
    rw [gv_set (by omega)]
    by_cases e : u = i
    · subst e
      simp only [if_true]
      exact st hv
    · simp only [e, if_false]
      exact st ((h2 i hi).chg hc (fun z hz e2 => apart_not (h3 u i (by omega) hi e) e2 hz))
  · exact (apart_growB (h3 u i (by omega) hi (fun e => hne e.symm)) hat (fun b hb => ((h2 i hi).lt b hb).2)).symm
theorem BK.cell (h : BK w lo N bb cs f) {u : Nat} (hu : u < N) : w.cell? ⟨bb, u, none⟩ = some (gv cs u) ∧ w.frozen? ⟨bb, u, none⟩ = false := ⟨row_cell h.1 (by omega), World.ownsRow.frozenAt h.1 u⟩
theorem BK.reads (h : BK w lo N bb cs f) {E : List (List Int)} (hE : E.length = N) (e : ∀ i, i < N → f i = gl E i) : RII w (some ⟨bb, 0, none⟩) N N E :=
  RII.of_rows hE h.1 (h.2.1.congr (fun i hi => e i (by rw [← h.len]; exact hi)))
/-- a mark or a box elsewhere may turn -/
theorem BK.chg {S : Nat → Prop} (h : BK w lo N bb cs f) (hc : Chg S w w') (hS : ∀ b, S b → b < lo) : BK w' lo N bb cs f :=
  ⟨row_chg h.1 hc (fun z hz e => by have := (World.ownsRow.lt h.1 z hz).1; have := hS z e; omega), fun i hi => (h.2.1 i hi).chg hc (fun z hz e => by have := ((h.2.1 i hi).lt z hz).1; have := hS z e; omega), h.2.2⟩
end
/-- the rows when all below k, and of k the first j, have been gone through -/
structure PB (n : List (List Int)) (N : Nat) (ok : Nat → Nat → Prop) (k j : Nat) (f : Nat → List Int) : Prop where
  mem : ∀ u, u < N → ∀ x : Int, x ∈ f u ↔ ∃ v : Nat, x = (v : Int) ∧ ok v u ∧ ((v < k ∧ (u : Int) ∈ gl n v) ∨ (v = k ∧ ∃ i, i < j ∧ i < (gl n k).length ∧ gi (gl n k) i = (u : Int)))
  few : ∀ u, u < N → (f u).length ≤ 16 * k + j
section
variable {n : List (List Int)} {N : Nat} {ok : Nat → Nat → Prop} {k j u : Nat} {f : Nat → List Int}
theorem PB.start : PB n N ok 0 0 (fun _ => []) where
  mem := fun u _ x => ⟨fun h => (by cases h), fun ⟨v, _, _, h⟩ => by
    rcases h with h | h
    · omega
    · obtain ⟨i, hi, _⟩ := h.2; omega⟩
  few := fun u _ => by simp
theorem PB.no (h : PB n N ok k j f) (hj : j < (gl n k).length) (hu : gi (gl n k) j = (u : Int)) (hok : ¬ ok k u) : PB n N ok k (j + 1) f where
  mem := fun y hy x => by
    rw [h.mem y hy x]
    constructor
    · rintro ⟨v, e, ho, h1 | ⟨h1, i, h2, h3⟩⟩
      · exact ⟨v, e, ho, .inl h1⟩
      · exact ⟨v, e, ho, .inr ⟨h1, i, by omega, h3⟩⟩
    · rintro ⟨v, e, ho, h1 | ⟨h1, i, h2, h3, h4⟩⟩
      · exact ⟨v, e, ho, .inl h1⟩
      · by_cases e2 : i = j
        · subst e2
          have : y = u := by omega
          rw [this, h1] at ho
          exact absurd ho hok
        · exact ⟨v, e, ho, .inr ⟨h1, i, by omega, h3, h4⟩⟩
  few := fun y hy => by have := h.few y hy; omega
theorem PB.yes (h : PB n N ok k j f) (hj : j < (gl n k).length) (hu : gi (gl n k) j = (u : Int)) (hok : ok k u) : PB n N ok k (j + 1) (fun i => if u = i then f u ++ [(k : Int)] else f i) where
  mem := fun y hy x => by
    have old := h.mem y hy x
    have up : (∃ v : Nat, x = (v : Int) ∧ ok v y ∧ ((v < k ∧ (y : Int) ∈ gl n v) ∨ (v = k ∧ ∃ i, i < j ∧ i < (gl n k).length ∧ gi (gl n k) i = (y : Int)))) → ∃ v : Nat, x = (v : Int) ∧ ok v y ∧ ((v < k ∧ (y : Int) ∈ gl n v) ∨ (v = k ∧ ∃ i, i < j + 1 ∧ i < (gl n k).length ∧ gi (gl n k) i = (y : Int))) := by
      rintro ⟨v, e, ho, h1 | ⟨h1, i, h2, h3⟩⟩
      · exact ⟨v, e, ho, .inl h1⟩
      · exact ⟨v, e, ho, .inr ⟨h1, i, by omega, h3⟩⟩
    by_cases e : u = y
    · subst e
      simp only [if_true]
      rw [List.mem_append, List.mem_singleton]
      constructor
      · rintro (hx | hx)
        · exact up (old.1 hx)
        · exact ⟨k, hx, hok, .inr ⟨rfl, j, by omega, hj, hu⟩⟩
      · rintro ⟨v, e, ho, h1 | ⟨h1, i, h2, h3, h4⟩⟩
        · exact .inl (old.2 ⟨v, e, ho, .inl h1⟩)
        · exact .inr (by rw [e, h1])
    · simp only [e, if_false]
      rw [old]
      constructor
      · exact up
      · rintro ⟨v, e3, ho, h1 | ⟨h1, i, h2, h3, h4⟩⟩
        · exact ⟨v, e3, ho, .inl h1⟩
        · by_cases e2 : i = j
          · subst e2
            exact absurd (show u = y by omega) e
          · exact ⟨v, e3, ho, .inr ⟨h1, i, by omega, h3, h4⟩⟩
  few := fun y hy => by
    have := h.few y hy
    by_cases e : u = y
    · subst e
      simp only [if_true]
      rw [List.length_append, List.length_singleton]; omega
    · simp only [e, if_false]; omega
theorem PB.row (h : PB n N ok k j f) (hj : (gl n k).length ≤ j) (h16 : j ≤ 16) : PB n N ok (k + 1) 0 f where
  mem := fun y hy x => by
    rw [h.mem y hy x]
    constructor
    · rintro ⟨v, e, ho, h1 | ⟨h1, i, h2, h3, h4⟩⟩
      · exact ⟨v, e, ho, .inl ⟨by omega, h1.2⟩⟩
      · exact ⟨v, e, ho, .inl ⟨by omega, by rw [h1, ← h4]; exact gi_mem h3⟩⟩
    · rintro ⟨v, e, ho, h1 | ⟨h1, i, h2, _⟩⟩
      · by_cases e2 : v = k
        · subst e2
          obtain ⟨i, hi, hg⟩ := mem_gi h1.2
          exact ⟨v, e, ho, .inr ⟨rfl, i, by omega, hi, hg⟩⟩
        · exact ⟨v, e, ho, .inl ⟨by omega, h1.2⟩⟩
      · omega
  few := fun y hy => by have := h.few y hy; omega
end
end Go.Proofs.YtjjaolndencplaaGreat
namespace Go.Proofs.YtjjaolndencplaaGreat
open Go.RowKit

/-- marks on the way: all of G, and only of what comes to G -/
structure BE (n : List (List Int)) (G : Nat → Prop) (N : Nat) (out : List Bool) : Prop where
  len : out.length = N
  base : ∀ u, G u → gb out u = true
  sound : ∀ u, gb out u = true → Comes n G u
/-- all that go to a marked one are marked -/
def Fix (n : List (List Int)) (out : List Bool) (v : Nat) : Prop := ∀ y : Nat, (y : Int) ∈ gl n v → gb out y = true → gb out v = true
section
variable {n : List (List Int)} {G : Nat → Prop} {N x y : Nat} {ms out : List Bool}
theorem Comes.step (hy : (y : Int) ∈ gl n x) (h : Comes n G y) : Comes n G x := by
  rcases h with h | ⟨u, h1, h2⟩
  · exact .inr ⟨y, .one hy, h⟩
  · exact .inr ⟨u, .head hy h1, h2⟩
theorem BE.start (hl : ms.length = N) : BE n (fun u => gb ms u = true) N ms := ⟨hl, fun _ h => h, fun _ h => .inl h⟩
theorem BE.put (h : BE n G N out) (hy : (y : Int) ∈ gl n x) (ho : gb out y = true) : BE n G N (out.set x true) := by
  refine ⟨by rw [List.length_set]; exact h.len, fun u hu => gb_setK (h.base u hu), fun u hu => ?_⟩
  rcases gb_setT hu with e | e
  · rw [e]; exact (h.sound y ho).step hy
  · exact h.sound u e
theorem BE.fin (h : BE n G N out) (hn : n.length ≤ N) (hf : ∀ v, v < N → Fix n out v) : ∀ v, gb out v = true ↔ Comes n G v := by
  intro v
  refine ⟨h.sound v, fun hc => ?_⟩
  rcases hc with hc | ⟨u, h1, h2⟩
  · exact h.base v hc
  · refine h1.flip.inv (P := fun x => gb out x = true) (h.base u h2) (fun a b ha hab => hf b ?_ a hab ha)
    by_cases e : b < n.length
    · omega
    · exfalso
      have : gl n b = [] := by simp [gl, List.getElem?_eq_none (Nat.le_of_not_lt e)]
      rw [this] at hab
      cases hab
end
/-- with a queue: whose before-rows are still to be looked at -/
structure AL (n : List (List Int)) (G : Nat → Prop) (N : Nat) (out : List Bool) (T : List Int) : Prop extends BE n G N out where
  cnt : T.length + cntF out ≤ 2 * N
  rng : ∀ z, z ∈ T → ∃ m : Nat, z = (m : Int) ∧ m < N
  full : ∀ y, gb out y = true → (y : Int) ∈ T ∨ ∀ v : Nat, (y : Int) ∈ gl n v → gb out v = true
  src : ∀ m : Nat, (m : Int) ∈ T → gb out m = true
structure AM (n : List (List Int)) (G : Nat → Prop) (N x j : Nat) (p : List Int) (out : List Bool) (T : List Int) : Prop extends BE n G N out where
  cnt : T.length + cntF out ≤ 2 * N
  rng : ∀ z, z ∈ T → ∃ m : Nat, z = (m : Int) ∧ m < N
  full : ∀ y, gb out y = true → (y : Int) ∈ T ∨ y = x ∨ ∀ v : Nat, (y : Int) ∈ gl n v → gb out v = true
  src : ∀ m : Nat, (m : Int) ∈ T → gb out m = true
  at_ : gb out x = true
  row : ∀ i, i < j → i < p.length → ∀ v : Nat, gi p i = (v : Int) → gb out v = true
section
variable {n : List (List Int)} {G : Nat → Prop} {N x j v : Nat} {ms out : List Bool} {T r p : List Int}
theorem AL.start (hl : ms.length = N) : AL n (fun u => gb ms u = true) N ms (listM ms) :=
  { BE.start hl with
    cnt := by
      have h1 := listM_len ms
      have h2 : cntF ms ≤ ms.length := List.countP_le_length
      omega
    rng := fun z hz => by
      obtain ⟨v, hv, _, e⟩ := mem_listM.1 hz
      exact ⟨v, e.symm, by omega⟩
    full := fun y hy => .inl (mem_listM.2 ⟨y, lt_ins rfl hy, hy, rfl⟩)
    src := fun m hm => by
      obtain ⟨v, _, h, e⟩ := mem_listM.1 hm
      obtain rfl : m = v := by omega
      exact h }
theorem AL.pop (h : AL n G N out ((x : Int) :: r)) (p : List Int) : AM n G N x 0 p out r :=
  { h.toBE with
    cnt := by have := h.cnt; rw [List.length_cons] at this; omega
    rng := fun z hz => h.rng z (List.mem_cons_of_mem _ hz)
    full := fun y hy => by
      rcases h.full y hy with k | k
      · rcases List.mem_cons.1 k with k | k
        · exact .inr (.inl (by omega))
        · exact .inl k
      · exact .inr (.inr k)
    src := fun m hm => h.src m (List.mem_cons_of_mem _ hm)
    at_ := h.src x List.mem_cons_self
    row := fun i hi => absurd hi (by omega) }
theorem AM.skip (h : AM n G N x j p out T) (hv : gi p j = (v : Int)) (ho : gb out v = true) : AM n G N x (j + 1) p out T :=
  { h with
    row := fun i hi hl u hu => by
      by_cases e : i = j
      · subst e
        obtain rfl : v = u := by omega
        exact ho
      · exact h.row i (by omega) hl u hu }
theorem AM.put (h : AM n G N x j p out T) (hv : gi p j = (v : Int)) (hvn : v < N) (he : (x : Int) ∈ gl n v) (ho : gb out v = false) : AM n G N x (j + 1) p (out.set v true) (T ++ [(v : Int)]) :=
  { h.toBE.put he h.at_ with
    cnt := by
      have := cntF_set (ms := out) (i := v) (by rw [h.len]; exact hvn) ho
      have := h.cnt
      rw [List.length_append, List.length_singleton]; omega
    rng := fun z hz => by
      rcases List.mem_append.1 hz with k | k
      · exact h.rng z k
      · exact ⟨v, by simpa using k, hvn⟩
    full := fun y hy => by
      rcases gb_setT hy with e | e
      · rw [e]; exact .inl (by simp)
      · rcases h.full y e with k | k | k
        · exact .inl (List.mem_append.2 (.inl k))
        · exact .inr (.inl k)
        · exact .inr (.inr fun u hu => gb_setK (k u hu))
    src := fun m hm => by
      rcases List.mem_append.1 hm with k | k
      · exact gb_setK (h.src m k)
      · have : (m : Int) = (v : Int) := by simpa using k
        obtain rfl : m = v := by omega
        exact gb_setS (by rw [h.len]; exact hvn)
    at_ := gb_setK h.at_
    row := fun i hi hl u hu => by
      by_cases e : i = j
      · subst e
        obtain rfl : v = u := by omega
        exact gb_setS (by rw [h.len]; exact hvn)
      · exact gb_setK (h.row i (by omega) hl u hu) }
theorem AM.fin (h : AM n G N x j p out T) (hj : p.length ≤ j) (hp : ∀ v : Nat, (x : Int) ∈ gl n v → (v : Int) ∈ p) : AL n G N out T :=
  { h.toBE with
    cnt := h.cnt
    rng := h.rng
    full := fun y hy => by
      rcases h.full y hy with k | k | k
      · exact .inl k
      · rw [k]
        refine .inr fun v hv => ?_
        obtain ⟨i, hi, e⟩ := mem_gi (hp v hv)
        exact h.row i (by omega) hi v e
      · exact .inr k
    src := h.src }
theorem AL.fin (h : AL n G N out []) (hn : n.length ≤ N) : ∀ v, gb out v = true ↔ Comes n G v :=
  h.toBE.fin hn (fun v _ y hy ho => (h.full y ho).resolve_left (by simp) v hy)
/-- the rows of those before -/
theorem PB.before {f : Nat → List Int} (h : PB n N (fun _ _ => True) N 0 f) (hn : n.length ≤ N) (hx : x < N) (z : Int) : z ∈ f x ↔ ∃ v : Nat, z = (v : Int) ∧ v < N ∧ (x : Int) ∈ gl n v := by
  rw [h.mem x hx z]
  constructor
  · rintro ⟨v, e, _, k | ⟨_, i, hi, _⟩⟩
    · exact ⟨v, e, k⟩
    · omega
  · rintro ⟨v, e, k⟩
    exact ⟨v, e, trivial, .inl k⟩
theorem edge_lt (hn : n.length ≤ N) {y : Int} (h : y ∈ gl n v) : v < N := by
  by_cases e : v < n.length
  · omega
  · have : gl n v = [] := by simp [gl, List.getElem?_eq_none (Nat.le_of_not_lt e)]
    rw [this] at h
    cases h
end
end Go.Proofs.YtjjaolndencplaaGreat
namespace Go.Proofs.YtjjaolndencplaaGreat
open Go.RowKit

set_option maxRecDepth 100000 in
set_option maxHeartbeats 3200000 in
theorem specBefore (A0 A1 C : Option Addr) (n0 c0 c1 d N : Nat) (n : List (List Int)) (ms : List Bool) (w : World) (B : Nat) (hB : B ≤ w.heap.size) (hx : RII w A1 N c1 n) (hi : RB w C N d ms) (hN0 : 0 < N) (hN : N ≤ 256)
    (hE : ∀ x, x < N → (gl n x).length ≤ 16 ∧ ∀ j, j < (gl n x).length → ∃ m : Nat, gi (gl n x) j = (m : Int) ∧ m < N) :
    Calls Tryz.prog 40 #[.agg #[.slice A0 n0 c0, .slice A1 N c1], .slice C N d] w fun e w' => ∃ (b c : Nat) (out : List Bool), e = .returned (.slice (some ⟨b, 0, none⟩) N c) ∧ OB 4 w' B (.slice (some ⟨b, 0, none⟩) N c) out ∧ (out.length = N ∧ ∀ v, gb out v = true ↔ Comes n (fun u => gb ms u = true) v) ∧ Below B w w' := by
  have a1 := hx.cap; have a2 := hx.top
  have i1 := hi.cap; have i2 := hi.top
  have HIL := Lib.hid hi.len
  have HNL : Hid (n.length ≤ N) := Lib.hid (by rw [hx.len]; exact Nat.le_refl _)
  have HE := Lib.hid hE
  have H0 := Lib.hid (BE.start (n := n) (N := N) (ms := ms) hi.len)
  have bx := (Box.new w 30 #[.slice A0 n0 c0, .slice A1 N c1]).alloc (.cells #[] 4)
  have hba : Below w.heap.size w ((w.alloc (.cells #[.slice A0 n0 c0, .slice A1 N c1] 30)).alloc (.cells #[] 4)) := below_alloc (Nat.le_refl _) (below_alloc (Nat.le_refl _) (Below.refl _ _))
  have hem : OB 4 ((w.alloc (.cells #[.slice A0 n0 c0, .slice A1 N c1] 30)).alloc (.cells #[] 4)) (w.heap.size + 1) (.slice (some ⟨w.heap.size + 1, 0, none⟩) 0 0) [] := by
    have := OB.empty (E := 4) (w := w.alloc (.cells #[.slice A0 n0 c0, .slice A1 N c1] 30)) (B := w.heap.size + 1) (by simp)
    simpa using this
  have hsz : w.heap.size + 1 ≤ ((w.alloc (.cells #[.slice A0 n0 c0, .slice A1 N c1] 30)).alloc (.cells #[] 4)).heap.size := by simp
  clear hE
  go_enter Tryz.func40, Tryz.ntmps40
  go_wp2_with (refine wpList_appB rfl (.tmp 9) (.tmp 10) rfl _ (w.heap.size + 1) (.slice (some ⟨w.heap.size + 1, 0, none⟩) 0 0) [] rfl hem _ _ _ ms rfl hN0 (hi.keep (keeps_below hba)) (by simp) (by omega) hsz ?_; intro v1 w1 ho1 hb1; rw [List.nil_append] at ho1; obtain ⟨g, cg, hv1⟩ := ho1.form2 (by rw [HIL.out]; exact hN0); rw [HIL.out] at hv1; subst hv1; have bx1 := bx.below hb1 (by omega))
  have hw1 : Below w.heap.size w w1 := below_then hb1 (by omega) hba
  have hg1 := (ho1.lt g rfl).1
  clear hba hem hsz hb1 bx
  go_loopg [6] (2 * cntF ms + 1) (fun gk x wr => ∃ (fl : Bool) (out : List Bool), x = .bool fl ∧ 2 * cntF out + (if fl = true then 1 else 0) = gk ∧ OB 4 wr (w.heap.size + 1) (.slice (some ⟨g, 0, none⟩) N cg) out ∧ Hid (BE n (fun u => gb ms u = true) N out ∧ (fl = false → ∀ v, v < N → Fix n out v)) ∧ Box wr w.heap.size 30 #[.slice A0 n0 c0, .slice A1 N c1] ∧ Below w.heap.size w wr)
  case atStart => exact ⟨true, ms, rfl, by simp, ho1, Lib.hid ⟨H0.out, by simp⟩, bx1, hw1⟩
  case round =>
    clear ho1 bx1 hw1
    obtain ⟨fl, out, rfl, hgk, ho, HI, bX, hbr⟩ := hrel
    have HG := Lib.hid hgk
    clear hgk
    cases fl with
    | false =>
      have HFn := Lib.hid (HI.out.1.fin HNL.out (HI.out.2 rfl))
      go_wp2
      go_ret
      exact ⟨_, _, rfl, out, ho.more (by omega), ⟨HI.out.1.len, HFn.out⟩, hbr.mono hB⟩
    | true =>
      obtain ⟨wo, rfl⟩ : ∃ wo : World, wo = wr := ⟨_, rfl⟩
      go_wp2
      go_loopw [6, 7] (fun x i wi => ∃ (fl : Bool) (o2 : List Bool) (k : Nat), k ≤ N ∧ x = .bool fl ∧ i = .int .i64 (k : Int) ∧ OB 4 wi (w.heap.size + 1) (.slice (some ⟨g, 0, none⟩) N cg) o2 ∧ Hid (BE n (fun u => gb ms u = true) N o2 ∧ (fl = false → ∀ v, v < k → Fix n o2 v) ∧ cntF o2 + (if fl = true then 1 else 0) ≤ cntF out) ∧ Box wi w.heap.size 30 #[.slice A0 n0 c0, .slice A1 N c1] ∧ Below w.heap.size w wi) (fun _ i _ => N - (intOf i).toNat)
      case atStart => exact ⟨false, out, 0, Nat.zero_le _, rfl, rfl, ho, Lib.hid ⟨HI.out.1, fun _ v h => absurd h (by omega), by simp⟩, bX, hbr⟩
      case round =>
        clear ho bX hbr
        obtain ⟨fl, o2, k, hk, rfl, rfl, ho, HI2, bX, hbr⟩ := hrel
        have q1 : wr.cell? ⟨w.heap.size, 1, none⟩ = some (.slice A1 N c1) := bX.cell 1
        by_cases hlt : k < N
        · obtain ⟨be, oe, A', n', c', hA', hce, hre⟩ := hx.at_ hlt
          subst hA'
          have ra1 := hre.cap; have ra2 := hre.top
          have HR := Lib.hid hre.len
          have HB := Lib.hid (HE.out k hlt)
          go_wp2
          go_loopw [6, 8] (fun x i wj => ∃ (fl : Bool) (o3 : List Bool) (j : Nat), j ≤ n' ∧ x = .bool fl ∧ i = .int .i64 (j : Int) ∧ OB 4 wj (w.heap.size + 1) (.slice (some ⟨g, 0, none⟩) N cg) o3 ∧ Hid (BE n (fun u => gb ms u = true) N o3 ∧ (fl = false → (∀ v, v < k → Fix n o3 v) ∧ ∀ i, i < j → ∀ y : Nat, gi (gl n k) i = (y : Int) → gb o3 y = true → gb o3 k = true) ∧ cntF o3 + (if fl = true then 1 else 0) ≤ cntF out) ∧ Box wj w.heap.size 30 #[.slice A0 n0 c0, .slice (some ⟨be, oe, none⟩) N c1] ∧ Below w.heap.size w wj) (fun _ i _ => n' - (intOf i).toNat)
          case atStart => exact ⟨fl, o2, 0, Nat.zero_le _, rfl, rfl, ho, Lib.hid ⟨HI2.out.1, fun h => ⟨HI2.out.2.1 h, fun i hi => absurd hi (by omega)⟩, HI2.out.2.2⟩, bX, hbr⟩
          case round =>
            clear ho bX hbr q1 HI2
            obtain ⟨fl, o3, j, hj, rfl, rfl, ho, HI3, bX, hbr⟩ := hrel
            have q1 : wr.cell? ⟨w.heap.size, 1, none⟩ = some (.slice (some ⟨be, oe, none⟩) N c1) := bX.cell 1
            have hce1 := keeps_below hbr _ _ hce
            have HLn := Lib.hid HI3.out.1.len
            have hck := ho.at_ (i := k) (by rw [HLn.out]; exact hlt)
            by_cases hjl : j < n'
            · obtain ⟨bj, oj, hA2, hcj0⟩ := hre.at_ hjl
              subst hA2
              have hcj := keeps_below hbr _ _ hcj0
              obtain ⟨u, hu, hun⟩ := HB.out.2 j (by rw [HR.out]; exact hjl)
              have HU := Lib.hid hu
              rw [hu] at hcj
              have hcu := ho.at_ (i := u) (by rw [HLn.out]; exact hun)
              have hfk := ho.hot (i := k) (by rw [HLn.out])
              clear hu
              cases hok : gb o3 k with
              | true =>
                have HOK := Lib.hid hok
                rw [hok] at hck
                clear hok
                go_wp2
                exact ⟨⟨fl, o3, k + 1, by omega, rfl, by go_num, ho, Lib.hid ⟨HI3.out.1, fun h v hv => by
                  by_cases e : v = k
                  · rw [e]; exact fun _ _ _ => HOK.out
                  · exact (HI3.out.2.1 h).1 v (by omega), HI3.out.2.2⟩, bX, hbr⟩, by simp [intOf]; omega⟩
              | false =>
                have HOK := Lib.hid hok
                rw [hok] at hck
                clear hok
                cases hou : gb o3 u with
                | true =>
                  have HOU := Lib.hid hou
                  rw [hou] at hcu
                  clear hou
                  have hoS := ho.set_ (i := k) (by rw [HLn.out]) true
                  have bXS := bX.far (p := ⟨g, k, none⟩) (show w.heap.size ≠ g by omega) (.bool true)
                  have hwS := below_set (p := ⟨g, k, none⟩) (u := .bool true) (by show w.heap.size ≤ g; omega) hbr
                  have HC := Lib.hid (cntF_set (ms := o3) (i := k) (by rw [HLn.out]; exact hlt) HOK.out)
                  have HPt := Lib.hid (HI3.out.1.put (x := k) (y := u) (by rw [← HU.out]; exact gi_mem (by rw [HR.out]; exact hjl)) HOU.out)
                  go_wp2
                  go_roundw
                  case rel => exact ⟨true, o3.set k true, j + 1, by omega, rfl, by go_num, hoS, Lib.hid ⟨HPt.out, fun h => (by cases h), by have h1 := HC.out; have h2 := HI3.out.2.2; simp only [if_true]; omega⟩, bXS, hwS⟩
                  case measure => simp [intOf]; omega
                | false =>
                  have HOU := Lib.hid hou
                  rw [hou] at hcu
                  clear hou
                  go_wp2
                  go_roundw
                  case rel => exact ⟨fl, o3, j + 1, by omega, rfl, by go_num, ho, Lib.hid ⟨HI3.out.1, fun h => ⟨(HI3.out.2.1 h).1, fun i hi y hy hyo => by
                    by_cases e : i = j
                    · subst e
                      have : y = u := by have := HU.out; omega
                      rw [this, HOU.out] at hyo; cases hyo
                    · exact (HI3.out.2.1 h).2 i (by omega) y hy hyo⟩, HI3.out.2.2⟩, bX, hbr⟩
                  case measure => simp [intOf]; omega
            · obtain rfl : j = n' := by omega
              go_wp2
              exact ⟨⟨fl, o3, k + 1, by omega, rfl, by go_num, ho, Lib.hid ⟨HI3.out.1, fun h v hv => by
                by_cases e : v = k
                · rw [e]
                  intro y hy hyo
                  obtain ⟨i, hi', e2⟩ := mem_gi hy
                  exact (HI3.out.2.1 h).2 i (by rw [HR.out] at hi'; exact hi') y e2 hyo
                · exact (HI3.out.2.1 h).1 v (by omega), HI3.out.2.2⟩, bX, hbr⟩, by simp [intOf]; omega⟩
        · obtain rfl : k = N := by omega
          go_wp2
          go_roundg (2 * cntF o2 + (if fl = true then 1 else 0))
          case rel => exact ⟨fl, o2, rfl, rfl, ho, Lib.hid ⟨HI2.out.1, HI2.out.2.1⟩, bX, hbr⟩
          case measure =>
            have h1 := HG.out
            have h2 := HI2.out.2.2
            simp only [if_true] at h1
            cases fl with
            | true => simp only [if_true] at h2 ⊢; omega
            | false => simp at h2 ⊢; omega
end Go.Proofs.YtjjaolndencplaaGreat
namespace Go.Proofs.YtjjaolndencplaaGreat
open Go.RowKit Go.Sort

theorem cntF_le (ls : List Bool) : cntF ls ≤ ls.length := List.countP_le_length
theorem Way.last2 {R : Nat → Nat → Prop} {v u : Nat} (h : Way R v u) : R v u ∨ ∃ y, Way R v y ∧ R y u :=
  (h (fun u => Way R v u ∧ (R v u ∨ ∃ y, Way R v y ∧ R y u)) (fun x hx => ⟨.one hx, .inl hx⟩) (fun x y hx hy => ⟨hx.1.step hy, .inr ⟨x, hx.1, hy⟩⟩)).2
structure P2 (R : Nat → Nat → Prop) (O : List Nat) (N k : Nat) (ls : List Bool) (ps : List (List Int)) : Prop where
  len : ls.length = N
  high : ∀ A B, O = A ++ B → A.length = k → ∀ x, x ∈ B → gb ls x = true
  shut : ∀ x y, gb ls x = true → Both R x y → gb ls y = true
  sets : ∀ p, p ∈ ps → setB p (N : Int) = true
  parts : ∀ p, p ∈ ps → ∃ v, Both R v v ∧ ∀ x : Int, x ∈ p ↔ ∃ u : Nat, x = (u : Int) ∧ Both R v u
  all : ∀ v, gb ls v = true → Both R v v → ∃ p, p ∈ ps ∧ (v : Int) ∈ p
  few : ps.length + k ≤ O.length
section
variable {R : Nat → Nat → Prop} {O : List Nat} {N k : Nat} {ls ls' : List Bool} {ps : List (List Int)}
theorem P2.start : P2 R O N O.length (List.replicate N false) [] where
  len := by simp
  high := fun A B e hA x hx => by
    have : B = [] := List.eq_nil_of_length_eq_zero (by have := congrArg List.length e; rw [List.length_append] at this; omega)
    rw [this] at hx; cases hx
  shut := fun x y h => by rw [gb_repF] at h; cases h
  sets := fun p h => (by cases h)
  parts := fun p h => (by cases h)
  all := fun v h => by rw [gb_repF] at h; cases h
  few := by simp
theorem split_at {k : Nat} (hk : k < O.length) : O = O.take k ++ O[k] :: O.drop (k + 1) ∧ (O.take k).length = k := by
  refine ⟨?_, by rw [List.length_take]; omega⟩
  conv => lhs; rw [← List.take_append_drop k O, List.drop_eq_getElem_cons hk]
theorem P2.high' (h : P2 R O N (k + 1) ls ps) (hk : k < O.length) : ∀ x, x ∈ O.drop (k + 1) → gb ls x = true :=
  h.high (O.take (k + 1)) (O.drop (k + 1)) (List.take_append_drop _ _).symm (by rw [List.length_take]; omega)
theorem P2.skip (h : P2 R O N (k + 1) ls ps) (hk : k < O.length) (hm : gb ls O[k] = true) : P2 R O N k ls ps :=
  { h with
    high := fun A B e hA x hx => by
      have e2 := split_at hk
      have : A = O.take k ∧ B = O[k] :: O.drop (k + 1) := List.append_inj (e.symm.trans e2.1) (by rw [hA, e2.2])
      rw [this.2] at hx
      rcases List.mem_cons.1 hx with h1 | h1
      · rw [h1]; exact hm
      · exact h.high' hk x h1
    few := by have := h.few; omega }
/-- what K adds to the marks -/
theorem P2.marks (h : P2 R O N (k + 1) ls ps) (hk : k < O.length) {K : List Nat} (hl : ls'.length = N) (hm : ∀ u, gb ls' u = true ↔ gb ls u = true ∨ u ∈ K) (hK : ∀ u, u ∈ K ↔ u = O[k] ∨ Both R O[k] u) :
    (∀ A B, O = A ++ B → A.length = k → ∀ x, x ∈ B → gb ls' x = true) ∧ ∀ x y, gb ls' x = true → Both R x y → gb ls' y = true := by
  refine ⟨fun A B e hA x hx => ?_, fun x y hx hb => ?_⟩
  · have e2 := split_at hk
    have : A = O.take k ∧ B = O[k] :: O.drop (k + 1) := List.append_inj (e.symm.trans e2.1) (by rw [hA, e2.2])
    rw [this.2] at hx
    rw [hm]
    rcases List.mem_cons.1 hx with h1 | h1
    · exact .inr ((hK x).2 (.inl h1))
    · exact .inl (h.high' hk x h1)
  · rw [hm] at hx ⊢
    rcases hx with h1 | h1
    · exact .inl (h.shut x y h1 hb)
    · right
      rcases (hK x).1 h1 with h2 | h2
      · rw [h2] at hb; exact (hK y).2 (.inr hb)
      · exact (hK y).2 (.inr (h2.trans hb))
theorem P2.none (h : P2 R O N (k + 1) ls ps) (hk : k < O.length) {K : List Nat} (hl : ls'.length = N) (hm : ∀ u, gb ls' u = true ↔ gb ls u = true ∨ u ∈ K) (hK : ∀ u, u ∈ K ↔ u = O[k] ∨ Both R O[k] u) (hno : ¬ Both R O[k] O[k]) : P2 R O N k ls' ps := by
  obtain ⟨m1, m2⟩ := h.marks hk hl hm hK
  refine ⟨hl, m1, m2, h.sets, h.parts, fun v hv hb => ?_, by have := h.few; omega⟩
  rcases (hm v).1 hv with h1 | h1
  · exact h.all v h1 hb
  · rcases (hK v).1 h1 with h2 | h2
    · rw [h2] at hb; exact absurd hb hno
    · exact absurd h2.self hno
theorem P2.take (h : P2 R O N (k + 1) ls ps) (hk : k < O.length) {K : List Nat} (hl : ls'.length = N) (hm : ∀ u, gb ls' u = true ↔ gb ls u = true ∨ u ∈ K) (hK : ∀ u, u ∈ K ↔ u = O[k] ∨ Both R O[k] u) (hself : Both R O[k] O[k]) {p : List Int} (hp : ∀ x : Int, x ∈ p ↔ ∃ u : Nat, u ∈ K ∧ x = (u : Int)) (hset : setB p (N : Int) = true) : P2 R O N k ls' (ps ++ [p]) := by
  obtain ⟨m1, m2⟩ := h.marks hk hl hm hK
  have mem : ∀ x : Int, x ∈ p ↔ ∃ u : Nat, x = (u : Int) ∧ Both R O[k] u := fun x => by
    rw [hp]
    constructor
    · rintro ⟨u, hu, e⟩
      rcases (hK u).1 hu with h2 | h2
      · exact ⟨u, e, by rw [h2]; exact hself⟩
      · exact ⟨u, e, h2⟩
    · rintro ⟨u, e, hb⟩
      exact ⟨u, (hK u).2 (.inr hb), e⟩
  refine ⟨hl, m1, m2, fun q hq => ?_, fun q hq => ?_, fun v hv hb => ?_, by have := h.few; rw [List.length_append, List.length_singleton]; omega⟩
  · rcases List.mem_append.1 hq with e | e
    · exact h.sets q e
    · rw [List.mem_singleton.1 e]; exact hset
  · rcases List.mem_append.1 hq with e | e
    · exact h.parts q e
    · rw [List.mem_singleton.1 e]; exact ⟨_, hself, mem⟩
  · rcases (hm v).1 hv with h1 | h1
    · obtain ⟨q, hq, hm'⟩ := h.all v h1 hb
      exact ⟨q, List.mem_append.2 (.inl hq), hm'⟩
    · exact ⟨p, by simp, (hp _).2 ⟨v, h1, rfl⟩⟩
theorem P2.fin (h : P2 R O N 0 ls ps) (hcov : ∀ v, Both R v v → v ∈ O) : isParts R ps :=
  ⟨h.parts, fun v hb => h.all v (h.high [] O rfl rfl v (hcov v hb)) hb⟩
/-- is it a part of more than nothing -/
theorem self_iff {K : List Nat} {v : Nat} (hnd : K.Nodup) (hK : ∀ u, u ∈ K ↔ u = v ∨ Both R v u) : Both R v v ↔ 1 < K.length ∨ R v v := by
  constructor
  · intro hb
    rcases hb.1.last2 with h | ⟨y, h1, h2⟩
    · exact .inr h
    · by_cases e : y = v
      · rw [e] at h2; exact .inr h2
      · left
        have hy : y ∈ K := (hK y).2 (.inr ⟨h1, .one h2⟩)
        have hv : v ∈ K := (hK v).2 (.inl rfl)
        cases K with
        | nil => cases hy
        | cons a r =>
          cases r with
          | nil =>
            have e1 := List.mem_singleton.1 hy
            have e2 := List.mem_singleton.1 hv
            exact absurd (e1.trans e2.symm) e
          | cons b r => simp
  · rintro (h | h)
    · cases K with
      | nil => simp at h
      | cons a r =>
        cases r with
        | nil => simp at h
        | cons b r =>
          have hne : a ≠ b := by
            have := List.nodup_cons.1 hnd
            intro e
            exact this.1 (by rw [e]; simp)
          rcases (hK a).1 (by simp) with h1 | h1
          · rcases (hK b).1 (by simp) with h2 | h2
            · exact absurd (h1.trans h2.symm) hne
            · exact h2.self
          · exact h1.self
    · exact ⟨.one h, .one h⟩
end
/-- what is no mark is kept -/
def Kp (w w' : World) : Prop := ∀ (a : Addr) (u : Value), w.cell? a = some u → (∀ b, u ≠ .bool b) → w'.cell? a = some u
theorem RI.kp {w w' : World} {A : Option Addr} {n c : Nat} {xs : List Int} (h : RI w A n c xs) (k : Kp w w') : RI w' A n c xs :=
  ⟨h.1, h.2.1, fun i hi => by obtain ⟨b, off, e, hc⟩ := h.2.2 i hi; exact ⟨b, off, e, k _ _ hc (by simp)⟩⟩
theorem RII.kp {w w' : World} {A : Option Addr} {n c : Nat} {xs : List (List Int)} (h : RII w A n c xs) (k : Kp w w') : RII w' A n c xs :=
  ⟨h.1, h.2.1, fun i hi => by obtain ⟨b, off, A', n', c', e, hc, hr⟩ := h.2.2 i hi; exact ⟨b, off, A', n', c', e, k _ _ hc (by simp), hr.kp k⟩⟩
theorem OB.alone {w : World} {lo b N : Nat} {ls : List Bool} (h : OB 4 w lo (.slice (some ⟨b, 0, none⟩) N N) ls) {a : Addr} {u : Value} (hc : w.cell? a = some u) (hu : ∀ x, u ≠ .bool x) : a.block ≠ b := by
  intro e
  obtain ⟨h1, h2⟩ := h
  rcases h2 with ⟨e2, _⟩ | ⟨g', cap, cur, e2, hb, hg, hn, hcm, hs, ht⟩
  · injection e2 with e3; cases e3
  · injection e2 with e3 e4 e5
    injection e3 with e3
    injection e3 with e3
    subst e3
    have hl : cur.toList = ls.map Value.bool := by
      rw [← ht, List.take_of_length_le]
      simp at hs ⊢
      omega
    rw [← e] at hg
    have hm : u ∈ cur.toList := by
      have h9 : cur[a.off]? = some u := by
        have h8 := hc
        simp [World.cell?, hg] at h8
        exact h8.2
      obtain ⟨hlt, he⟩ := Array.getElem?_eq_some_iff.1 h9
      rw [← he]
      exact Array.getElem_mem_toList hlt
    rw [hl] at hm
    obtain ⟨x, _, hx⟩ := List.mem_map.1 hm
    exact hu x hx.symm
theorem OLR.fr {w0 w w' : World} {lo lk bk N : Nat} {v : Value} {E : List (List Int)} {ls : List Bool} (h : OLR w0 w lo v E) (hb : OB 4 w lk (.slice (some ⟨bk, 0, none⟩) N N) ls) (hF : Fr bk w.heap.size w w') : OLR w0 w' lo v E := by
  obtain ⟨cs, h1, h2⟩ := h
  refine ⟨cs, row_chg h1 hF (fun z hz e => ?_), fun j hj => (h2 j hj).imp id (fun o => o.chg hF (fun z hz e => ?_))⟩
  · rcases e with e | e
    · exact own_ne h1 hb (by decide) z hz (by rw [e]; rfl)
    · have := (World.ownsRow.lt h1 z hz).2; omega
  · rcases e with e | e
    · exact own_ne o hb (by decide) z hz (by rw [e]; rfl)
    · have := (o.lt z hz).2; omega
theorem sort_set {K : List Nat} {N : Nat} (hnd : K.Nodup) (hb : ∀ u, u ∈ K → u < N) : setB (sortL (nts K)) (N : Int) = true ∧ ∀ x : Int, x ∈ sortL (nts K) ↔ ∃ u : Nat, u ∈ K ∧ x = (u : Int) := by
  have hp : (sortL (nts K)).Perm (nts K) := List.mergeSort_perm _ _
  have hm : ∀ x : Int, x ∈ sortL (nts K) ↔ ∃ u : Nat, u ∈ K ∧ x = (u : Int) := fun x => by
    rw [hp.mem_iff]
    unfold nts
    rw [List.mem_map]
    exact ⟨fun ⟨u, h1, h2⟩ => ⟨u, h1, h2.symm⟩, fun ⟨u, h1, h2⟩ => ⟨u, h1, h2.symm⟩⟩
  refine ⟨setB_of_rises (rises_pair.2 ?_) (fun x hx => ?_), hm⟩
  · have h1 := sortL_pair (nts K)
    have h2 : (sortL (nts K)).Nodup := hp.nodup_iff.2 (by
      unfold nts
      exact List.Pairwise.map (S := (· ≠ ·)) _ (fun a b h => by omega) hnd)
    exact (h1.and h2).imp fun {a b} h => by have := h.1; have := h.2; omega
  · obtain ⟨u, hu, rfl⟩ := (hm x).1 hx
    have := hb u hu
    omega
theorem Box.fr {w w' : World} {lk bk N b : Nat} {t : TypeId} {xs : Array Value} {ls : List Bool} (h : Box w b t xs) (hb : OB 4 w lk (.slice (some ⟨bk, 0, none⟩) N N) ls) (hne : 4 ≠ t) (hF : Fr bk w.heap.size w w') : Box w' b t xs :=
  (hF.block b h.lt (fun e => by
    rcases e with e | e
    · exact row_nbox hb h hne (by rw [e]; rfl)
    · have := h.lt; omega)).trans h
/-- what the second pass has beside its result -/
structure SV (w : World) (lk N bd bk bw bv bo : Nat) (wv fv ov : Value) (ls : List Bool) (O : List Int) : Prop where
  bD : Box w bd 47 #[.slice (some ⟨bk, 0, none⟩) N N]
  oK : OB 4 w lk (.slice (some ⟨bk, 0, none⟩) N N) ls
  bW : Box w bw 47 #[wv]
  bV : Box w bv 80 #[fv]
  bO : Box w bo 27 #[ov]
  oO : OI 2 w lk ov O
section
variable {w0 w w' : World} {lk lo N bd bk bw bv bo : Nat} {wv fv ov : Value} {ls ls' : List Bool} {O : List Int}
theorem SV.on (h : SV w lk N bd bk bw bv bo wv fv ov ls O) (hb : Below w.heap.size w w') : SV w' lk N bd bk bw bv bo wv fv ov ls O :=
  ⟨h.bD.below hb h.bD.lt, h.oK.below hb, h.bW.below hb h.bW.lt, h.bV.below hb h.bV.lt, h.bO.below hb h.bO.lt, h.oO.below hb⟩
theorem SV.fr (h : SV w lk N bd bk bw bv bo wv fv ov ls O) (hF : Fr bk w.heap.size w w') (k : OB 4 w' lk (.slice (some ⟨bk, 0, none⟩) N N) ls') : SV w' lk N bd bk bw bv bo wv fv ov ls' O :=
  ⟨h.bD.fr h.oK (by decide) hF, k, h.bW.fr h.oK (by decide) hF, h.bV.fr h.oK (by decide) hF, h.bO.fr h.oK (by decide) hF, h.oO.chg hF (fun z hz e => by
    rcases e with e | e
    · exact own_ne h.oO h.oK (by decide) z hz (by rw [e]; rfl)
    · have := (h.oO.lt z hz).2; omega)⟩
/-- the result's row turns -/
theorem SV.out (h : SV w lk N bd bk bw bv bo wv fv ov ls O) {v : Value} {E : List (List Int)} (ho : OLR w0 w lo v E) (hbo : bo < lo) (hc : Chg (fun z => v.ownBlock = some z) w w') : SV w' lk N bd bk bw bv bo wv fv ov ls O := by
  obtain ⟨cs, h1, _⟩ := ho
  have bx : ∀ {b : Nat} {t : TypeId} {xs : Array Value}, Box w b t xs → 27 ≠ t → Box w' b t xs := fun hb hne => (hc.block _ hb.lt (fun e => row_nbox h1 hb hne e)).trans hb
  exact ⟨bx h.bD (by decide), row_chg h.oK hc (fun z hz e => own_ne h1 h.oK (by decide) z e hz), bx h.bW (by decide), bx h.bV (by decide), by
    have hb := h.bO
    refine (hc.block _ hb.lt (fun e => ?_)).trans hb
    have := (World.ownsRow.lt h1 bo e).1; omega, h.oO.chg hc (fun z hz e => own_ne h1 h.oO (by decide) z e hz)⟩
end
end Go.Proofs.YtjjaolndencplaaGreat
namespace Go.Proofs.YtjjaolndencplaaGreat
open Go.RowKit

/-- marks of exactly those of which Q says it -/
def MkB (N : Nat) (ls : List Bool) (Q : Nat → Prop) : Prop := ls.length = N ∧ ∀ v, gb ls v = true ↔ Q v
section
variable {N u : Nat} {ls : List Bool} {Q Q' : Nat → Prop}
theorem MkB.put (h : MkB N ls Q) (hu : u < N) (e : ∀ v, Q' v ↔ Q v ∨ v = u) : MkB N (ls.set u true) Q' := by
  refine ⟨by rw [List.length_set]; exact h.1, fun v => ?_⟩
  rw [e]
  constructor
  · intro hv
    rcases gb_setT hv with k | k
    · exact .inr k
    · exact .inl ((h.2 v).1 k)
  · rintro (k | k)
    · exact gb_setK ((h.2 v).2 k)
    · rw [k]; exact gb_setS (by rw [h.1]; exact hu)
theorem MkB.cong (h : MkB N ls Q) (e : ∀ v, Q' v ↔ Q v) : MkB N ls Q' := ⟨h.1, fun v => (h.2 v).trans (e v).symm⟩
theorem meet_iff {a b : List Int} : meetB a b = true ↔ ∃ x, x ∈ a ∧ x ∈ b := by
  unfold meetB
  simp
theorem Kp.refl (w : World) : Kp w w := fun _ _ h _ => h
theorem Kp.mark {w w' : World} {lk b : Nat} (h : Kp w w') (k : OB 4 w' lk (.slice (some ⟨b, 0, none⟩) N N) ls) (i : Nat) (x : Value) : Kp w (w'.setCell ⟨b, i, none⟩ x) := fun a v hc hv => by
  have h1 := h a v hc hv
  have h2 := k.alone h1 hv
  rw [World.cell?_setCell_other _ _ _ _ (by intro e; rw [← e] at h2; exact h2 rfl)]
  exact h1
theorem Kp.of {w w' : World} {B : Nat} (h : Below B w w') (hB : w.heap.size ≤ B) : Kp w w' := fun a v hc _ => keeps_below (h.mono hB) a v hc
theorem Kp.then {a b c : World} (h : Kp a b) (k : Kp b c) : Kp a c := fun x v hc hv => k x v (h x v hc hv) hv
end
/-- of the parts looked at so far, those that meet -/
def MetG (qs : List (List Int)) (ask : List Int) (j v : Nat) : Prop := ∃ i, i < j ∧ (v : Int) ∈ gl qs i ∧ ∃ x, x ∈ gl qs i ∧ x ∈ ask
theorem metG_all {n : List (List Int)} {N : Nat} {ps : List PairD} {k : Nat} {qs : List (List Int)} (h : isParts (RW n (insM N (gp ps k).2)) qs) (v : Nat) : BrkG n N ps (k + 1) v ↔ BrkG n N ps k v ∨ MetG qs (gp ps k).1 qs.length v := by
  have hb := brk_pair (ask := (gp ps k).1) h v
  have h1 : (∃ p, p ∈ qs ∧ (v : Int) ∈ p ∧ ∃ x, x ∈ p ∧ x ∈ (gp ps k).1) ↔ MetG qs (gp ps k).1 qs.length v := by
    constructor
    · rintro ⟨p, hp, hv, hx⟩
      obtain ⟨i, hi, rfl⟩ := List.getElem_of_mem hp
      exact ⟨i, hi, by simpa [gl, hi] using hv, by simpa [gl, hi] using hx⟩
    · rintro ⟨i, hi, hv, hx⟩
      exact ⟨qs[i], List.getElem_mem hi, by simpa [gl, hi] using hv, by simpa [gl, hi] using hx⟩
  rw [← h1, hb]
  unfold BrkG
  constructor
  · rintro ⟨i, hi, hu⟩
    by_cases e : i = k
    · rw [e] at hu; exact .inr hu
    · exact .inl ⟨i, by omega, hu⟩
  · rintro (⟨i, hi, hu⟩ | hu)
    · exact ⟨i, by omega, hu⟩
    · exact ⟨k, by omega, hu⟩
theorem metG_no {qs : List (List Int)} {ask : List Int} {j v : Nat} (h : ¬ ∃ x, x ∈ gl qs j ∧ x ∈ ask) : MetG qs ask (j + 1) v ↔ MetG qs ask j v := by
  unfold MetG
  constructor
  · rintro ⟨i, hi, hv, hx⟩
    by_cases e : i = j
    · rw [e] at hx; exact absurd hx h
    · exact ⟨i, by omega, hv, hx⟩
  · rintro ⟨i, hi, hv, hx⟩; exact ⟨i, by omega, hv, hx⟩
theorem metG_yes {qs : List (List Int)} {ask : List Int} {j v : Nat} (h : ∃ x, x ∈ gl qs j ∧ x ∈ ask) : MetG qs ask (j + 1) v ↔ MetG qs ask j v ∨ (v : Int) ∈ gl qs j := by
  unfold MetG
  constructor
  · rintro ⟨i, hi, hv, hx⟩
    by_cases e : i = j
    · rw [e] at hv; exact .inr hv
    · exact .inl ⟨i, by omega, hv, hx⟩
  · rintro (⟨i, hi, hv, hx⟩ | hv)
    · exact ⟨i, by omega, hv, hx⟩
    · exact ⟨j, by omega, hv, h⟩
/-- of a row, the first x numbers -/
def InRow (p : List Int) (x v : Nat) : Prop := ∃ i, i < x ∧ i < p.length ∧ gi p i = (v : Int)
theorem inRow_step {p : List Int} {x u : Nat} (hx : x < p.length) (hu : gi p x = (u : Int)) (v : Nat) : InRow p (x + 1) v ↔ InRow p x v ∨ v = u := by
  constructor
  · rintro ⟨i, hi, hl, e⟩
    by_cases e2 : i = x
    · subst e2; exact .inr (by omega)
    · exact .inl ⟨i, by omega, hl, e⟩
  · rintro (⟨i, hi, hl, e⟩ | e)
    · exact ⟨i, by omega, hl, e⟩
    · exact ⟨x, by omega, hx, by rw [hu, e]⟩
theorem inRow_all {p : List Int} {v : Nat} : InRow p p.length v ↔ (v : Int) ∈ p := by
  constructor
  · rintro ⟨i, _, hl, e⟩; rw [← e]; exact gi_mem hl
  · intro h
    obtain ⟨i, hi, e⟩ := mem_gi h
    exact ⟨i, hi, hi, e⟩

set_option maxRecDepth 100000 in
set_option maxHeartbeats 3200000 in
theorem specBreaking (A0 A1 P : Option Addr) (c0 c1 m d N : Nat) (n : List (List Int)) (ps : List PairD) (w : World) (B : Nat) (hB : B ≤ w.heap.size) (hx : RII w A1 N c1 n) (hp : RPS w P m d ps) (hN : N ≤ 256) (hm : m ≤ 1048576)
    (hE : ∀ x, x < N → (gl n x).length ≤ 16 ∧ ∀ j, j < (gl n x).length → ∃ m : Nat, gi (gl n x) j = (m : Int) ∧ m < N) :
    Calls Tryz.prog 41 #[.agg #[.slice A0 N c0, .slice A1 N c1], .slice P m d] w fun e w' => ∃ (b : Nat) (out : List Bool), e = .returned (.slice (some ⟨b, 0, none⟩) N N) ∧ OB 4 w' B (.slice (some ⟨b, 0, none⟩) N N) out ∧ MkB N out (BrkG n N ps m) ∧ Below B w w' := by
  have p1 := hp.cap; have p2 := hp.top
  have HE := Lib.hid hE
  have bx := Box.new w 30 #[.slice A0 N c0, .slice A1 N c1]
  have hba : Below w.heap.size w (w.alloc (.cells #[.slice A0 N c0, .slice A1 N c1] 30)) := below_alloc (Nat.le_refl _) (Below.refl _ _)
  have HZ : Hid ((w.alloc (.cells #[.slice A0 N c0, .slice A1 N c1] 30)).heap.size = w.heap.size + 1) := Lib.hid (by simp)
  have q0 := bx.d0
  clear hE
  go_enter Tryz.func41, Tryz.ntmps41
  go_wp2_with (refine wpList_makeB rfl (.tmp 12) rfl _ N rfl (by omega) ?_; intro w1 hown hb1; rw [HZ.out] at hown ⊢; have bx1 := bx.below hb1 bx.lt; replace hb1 := below_then hb1 hba.size hba; replace hown := hown.more (lo' := w.heap.size) (by omega); clear hba bx q0)
  go_loopw [6] (fun i wr => ∃ (k : Nat) (ls : List Bool), k ≤ m ∧ i = .int .i64 (k : Int) ∧ OB 4 wr w.heap.size (.slice (some ⟨w.heap.size + 1, 0, none⟩) N N) ls ∧ Hid (MkB N ls (BrkG n N ps k)) ∧ Box wr w.heap.size 30 #[.slice A0 N c0, .slice A1 N c1] ∧ Below w.heap.size w wr) (fun i _ => m - (intOf i).toNat)
  case atStart => exact ⟨0, _, Nat.zero_le _, rfl, hown, Lib.hid ⟨by simp, fun v => ⟨fun h => (by rw [gb_repF] at h; cases h), fun ⟨i, hi, _⟩ => absurd hi (by omega)⟩⟩, bx1, hb1⟩
  case round =>
    clear hown hb1 bx1
    obtain ⟨k, ls, hk, rfl, ho, HI, bX, hbr⟩ := hrel
    by_cases hlt : k < m
    · obtain ⟨bp, op, Aa, na, ca, Ag, ng, cg, rfl, hca0, hcg0, hra0, hrg0⟩ := hp.at_ hlt
      have hcg := keeps_below hbr _ _ hcg0
      have hrg := hrg0.keep (keeps_below hbr)
      have q0 := bX.d0; have q1 := bX.d1
      have hxr := hx.keep (keeps_below hbr)
      have hsz := hbr.size
      go_wp2_with fail
      go_region_held3 (fun w' => w'.cell? ⟨w.heap.size, 0, none⟩ = some (.slice A0 N c0) ∧ w'.cell? ⟨w.heap.size, 1, none⟩ = some (.slice A1 N c1) ∧ w'.cell? ⟨bp, op + k * 2 + 1, none⟩ = some (.slice Ag ng cg))
        (refine ⟨?_, ?_, ?_⟩ <;> repeat (first | with_reducible assumption | with_reducible refine keepD ?_ | with_reducible refine keepA ?_))
        (first
          | (go_at_call 43
             refine (specInside Ag N ng cg (gp ps k).2 _ _ (Nat.le_refl _) (hrg.keep (keeps_below (Below.drew (Below.refl wr.heap.size wr)))) hN).mono ?_
             rintro e w2 ⟨bi, rfl, hin, hb2⟩
             replace hb2 := below_undrew hb2
             have hw2 := below_then hb2 hbr.size hbr
             have bX2 := bX.below hb2 bX.lt
             have hc2 := keeps_below hb2 _ _ hcg
             have q20 := bX2.d0
             have q21 := bX2.d1)
          | (go_at_call 56
             refine (specParts A0 A1 (some ⟨bi, 0, none⟩) N c0 N c1 N N n (insM N (gp ps k).2) _ _ (Nat.le_refl _) (hx.keep (keeps_below hw2)) hin.reads rfl hN HE.out).mono ?_
             rintro e w3 ⟨Aq, cq, qs, rfl, hq, hqs, hb3⟩
             have hw3 := below_then hb3 hw2.size hw2
             have bX3 := bX2.below hb3 bX2.lt
             have hc3 := keeps_below hb3 _ _ hc2
             have q30 := bX3.d0
             have q31 := bX3.d1))
      have HQS := Lib.hid hqs
      have ho3 := (ho.below hb2).below hb3
      have hk3 := Kp.refl w3
      have H3 : Hid (MkB N ls (fun v => BrkG n N ps k v ∨ MetG qs (gp ps k).1 0 v)) := Lib.hid (HI.out.cong (fun v => ⟨fun h => h.elim id (fun ⟨i, hi, _⟩ => absurd hi (by omega)), .inl⟩))
      have r1 := hq.cap; have r2 := hq.top
      clear hqs hin hb2 hw2 bX2 hc2 q20 q21 hb3 hc3 q30 q31 hcg hrg hcg0 hrg0 ho bX hbr q0 q1 hxr
      go_wp2
      go_loopw [8] (fun i wi => ∃ (j : Nat) (l2 : List Bool), j ≤ qs.length ∧ i = .int .i64 (j : Int) ∧ OB 4 wi w.heap.size (.slice (some ⟨w.heap.size + 1, 0, none⟩) N N) l2 ∧ Hid (MkB N l2 (fun v => BrkG n N ps k v ∨ MetG qs (gp ps k).1 j v)) ∧ Kp w3 wi ∧ Box wi w.heap.size 30 #[.slice A0 N c0, .slice A1 N c1] ∧ Below w.heap.size w wi) (fun i _ => qs.length - (intOf i).toNat)
      case atStart => exact ⟨0, ls, Nat.zero_le _, rfl, ho3, H3, hk3, bX3, hw3⟩
      case round =>
        clear ho3 H3 hk3 bX3 hw3 hsz HI
        obtain ⟨j, l2, hj, rfl, ho, HI, hkp, bX, hbr⟩ := hrel
        by_cases hjl : j < qs.length
        · obtain ⟨bq, oq, Ap, np, cp, rfl, hcq0, hrq0⟩ := hq.at_ hjl
          have hcq := hkp _ _ hcq0 (by simp)
          have hrq := hrq0.kp hkp
          have hca := keeps_below hbr _ _ hca0
          have hra := hra0.keep (keeps_below hbr)
          have t1 := hrq0.cap; have t2 := hrq0.top
          have HRL := Lib.hid hrq0.len
          have HPS : Hid (setB (gl qs j) (N : Int) = true) := Lib.hid (HQS.out.2.1 _ (by
            have h1 : gl qs j = qs[j] := by simp [gl, hjl]
            rw [h1]; exact List.getElem_mem hjl))
          have hcall := fun W (hW : Below wr.heap.size wr W) => l16Meets Aa Ap na ca np cp (gp ps k).1 (gl qs j) W (hra.keep (keeps_below hW)) (hrq.keep (keeps_below hW))
          cases hmt : meetB (gp ps k).1 (gl qs j) with
          | false =>
            rw [hmt] at hcall
            have HX : Hid (¬ ∃ x, x ∈ gl qs j ∧ x ∈ (gp ps k).1) := Lib.hid (fun ⟨x, h1, h2⟩ => by rw [meet_iff.2 ⟨x, h2, h1⟩] at hmt; cases hmt)
            clear hmt
            go_wp2_with fail
            go_region_held3 (fun w' => w'.cell? ⟨bp, op + k * 2, none⟩ = some (.slice Aa na ca) ∧ w'.cell? ⟨bq, oq + j, none⟩ = some (.slice Ap np cp))
              (refine ⟨?_, ?_⟩ <;> repeat (first | with_reducible assumption | with_reducible refine keepD ?_ | with_reducible refine keepA ?_))
              (first
                | (go_at_call 57
                   refine (hcall _ (Below.drew (Below.refl wr.heap.size wr))).mono ?_
                   rintro e w4 ⟨rfl, qq⟩
                   have hb4 := below_qt qq (Below.drew (Below.refl wr.heap.size wr))
                   have hca4 := keeps_below hb4 _ _ hca
                   have hcq4 := keeps_below hb4 _ _ hcq))
            have ho4 := ho.below hb4
            have bX4 := bX.below hb4 bX.lt
            have hw4 := below_then hb4 hbr.size hbr
            have hk4 := hkp.then (Kp.of hb4 (Nat.le_refl _))
            go_wp2
            go_roundw
            case rel => exact ⟨j + 1, l2, by omega, by go_num, ho4, Lib.hid (HI.out.cong (fun v => or_congr Iff.rfl (metG_no HX.out))), hk4, bX4, hw4⟩
            case measure => simp [intOf]; omega
          | true =>
            rw [hmt] at hcall
            have HX : Hid (∃ x, x ∈ gl qs j ∧ x ∈ (gp ps k).1) := Lib.hid (by obtain ⟨x, h1, h2⟩ := meet_iff.1 hmt; exact ⟨x, h2, h1⟩)
            clear hmt
            go_wp2_with fail
            go_region_held3 (fun w' => w'.cell? ⟨bp, op + k * 2, none⟩ = some (.slice Aa na ca) ∧ w'.cell? ⟨bq, oq + j, none⟩ = some (.slice Ap np cp))
              (refine ⟨?_, ?_⟩ <;> repeat (first | with_reducible assumption | with_reducible refine keepD ?_ | with_reducible refine keepA ?_))
              (first
                | (go_at_call 57
                   refine (hcall _ (Below.drew (Below.refl wr.heap.size wr))).mono ?_
                   rintro e w4 ⟨rfl, qq⟩
                   have hb4 := below_qt qq (Below.drew (Below.refl wr.heap.size wr))
                   have hca4 := keeps_below hb4 _ _ hca
                   have hcq4 := keeps_below hb4 _ _ hcq))
            have ho4 := ho.below hb4
            have bX4 := bX.below hb4 bX.lt
            have hw4 := below_then hb4 hbr.size hbr
            have hk4 := hkp.then (Kp.of hb4 (Nat.le_refl _))
            have H4 : Hid (MkB N l2 (fun v => (BrkG n N ps k v ∨ MetG qs (gp ps k).1 j v) ∨ InRow (gl qs j) 0 v)) := Lib.hid (HI.out.cong (fun v => ⟨fun h => h.elim id (fun ⟨i, hi, _⟩ => absurd hi (by omega)), .inl⟩))
            clear hcall hca4 hcq4 hb4 qq hca hcq hra hrq ho bX hbr hkp HI
            go_wp2
            go_loopw [9] (fun i wi => ∃ (x : Nat) (l3 : List Bool), x ≤ np ∧ i = .int .i64 (x : Int) ∧ OB 4 wi w.heap.size (.slice (some ⟨w.heap.size + 1, 0, none⟩) N N) l3 ∧ Hid (MkB N l3 (fun v => (BrkG n N ps k v ∨ MetG qs (gp ps k).1 j v) ∨ InRow (gl qs j) x v)) ∧ Kp w3 wi ∧ Box wi w.heap.size 30 #[.slice A0 N c0, .slice A1 N c1] ∧ Below w.heap.size w wi) (fun i _ => np - (intOf i).toNat)
            case atStart => exact ⟨0, l2, Nat.zero_le _, rfl, ho4, H4, hk4, bX4, hw4⟩
            case round =>
              clear ho4 H4 hk4 bX4 hw4
              obtain ⟨x, l3, hx', rfl, ho, HI, hkp, bX, hbr⟩ := hrel
              have hcq := hkp _ _ hcq0 (by simp)
              have hrq := hrq0.kp hkp
              by_cases hxl : x < np
              · obtain ⟨u, hu, hun⟩ := set_nat HPS.out (show x < (gl qs j).length by rw [HRL.out]; exact hxl)
                obtain ⟨bx', ox', rfl, hcx⟩ := hrq.at_ hxl
                rw [hu] at hcx
                have HU := Lib.hid hu
                have hcu := ho.at_ (i := u) (by rw [HI.out.1]; exact hun)
                have hfu := ho.hot (i := u) (by rw [HI.out.1])
                have hoS := ho.set_ (i := u) (by rw [HI.out.1]) true
                have bXS := bX.far (p := ⟨w.heap.size + 1, u, none⟩) (show w.heap.size ≠ w.heap.size + 1 by omega) (.bool true)
                have hwS := below_set (p := ⟨w.heap.size + 1, u, none⟩) (u := .bool true) (by show w.heap.size ≤ w.heap.size + 1; omega) hbr
                have hkS := hkp.mark ho u (.bool true)
                clear hu
                go_wp2
                go_roundw
                case rel => exact ⟨x + 1, l3.set u true, by omega, by go_num, hoS, Lib.hid (HI.out.put hun (fun v => (or_congr Iff.rfl (inRow_step (by rw [HRL.out]; exact hxl) HU.out v)).trans or_assoc.symm)), hkS, bXS, hwS⟩
                case measure => simp [intOf]; omega
              · obtain rfl : x = np := by omega
                go_wp2
                exact ⟨⟨j + 1, l3, by omega, by go_num, ho, Lib.hid (HI.out.cong (fun v => by
                  have h1 := inRow_all (p := gl qs j) (v := v)
                  rw [HRL.out] at h1
                  rw [h1, metG_yes HX.out, or_assoc])), hkp, bX, hbr⟩, by simp [intOf]; omega⟩
        · obtain rfl : j = qs.length := by omega
          go_wp2
          exact ⟨⟨k + 1, l2, by omega, by go_num, ho, Lib.hid (HI.out.cong (fun v => metG_all HQS.out.1 v)), bX, hbr⟩, by simp [intOf]; omega⟩
    · obtain rfl : k = m := by omega
      go_wp2
      go_ret
      exact ⟨_, ls, rfl, ho.more hB, HI.out, hbr.mono hB⟩
end Go.Proofs.YtjjaolndencplaaGreat
namespace Go.Proofs.YtjjaolndencplaaGreat
open Go.RowKit

theorem arE {o : List Int} {n : List (List Int)} {N : Nat} (h : arB o n = true) (hN : o.length = N) : (1 ≤ N ∧ N ≤ 256 ∧ n.length = N) ∧ ∀ x, x < N → (gl n x).length ≤ 16 ∧ ∀ j, j < (gl n x).length → ∃ m : Nat, gi (gl n x) j = (m : Int) ∧ m < N := by
  obtain ⟨h1, h2⟩ := arB_iff.1 h
  rw [hN] at h1
  refine ⟨h1, fun x hx => ?_⟩
  obtain ⟨_, h3, h4⟩ := vOk_iff.1 (h2 x (by omega))
  rw [hN] at h4
  exact ⟨h3.2, fun j hj => set_nat h4 hj⟩
noncomputable def brkR (z : List Int × List (List Int)) (ps : List PairD) : List Int := if (arB z.1 z.2 && pairsB ps (z.1.length : Int)) = true then brkL z.2 z.1.length ps else []
theorem comes_cong {n : List (List Int)} {G G' : Nat → Prop} (h : ∀ v, G v ↔ G' v) (v : Nat) : Comes n G v ↔ Comes n G' v := by
  rw [show G = G' from funext fun v => propext (h v)]
set_option maxRecDepth 100000 in
set_option maxHeartbeats 1600000 in
theorem specBreaksFrom (A0 A1 P : Option Addr) (n0 c0 n1 c1 m d : Nat) (z : List Int × List (List Int)) (ps : List PairD) (w : World) (B : Nat) (hB : B ≤ w.heap.size) (hr : RI w A0 n0 c0 z.1) (hx : RII w A1 n1 c1 z.2) (hp : RPS w P m d ps) :
    Calls Tryz.prog 15 #[.agg #[.slice A0 n0 c0, .slice A1 n1 c1], .slice P m d] w fun e w' => ∃ v, e = .returned v ∧ OI 2 w' B v (brkR z ps) ∧ Below B w w' := by
  have HL := Lib.hid hr.len
  have hba : Below w.heap.size w (w.alloc (.cells #[.slice A0 n0 c0, .slice A1 n1 c1] 30)) := below_alloc (Nat.le_refl _) (Below.refl _ _)
  have bx := Box.new w 30 #[.slice A0 n0 c0, .slice A1 n1 c1]
  have q0 := bx.d0; have q1 := bx.d1
  have p1 := hp.cap; have p2 := hp.top; have r1 := hr.cap; have r2 := hr.top
  have hall := specArenaOk A0 A1 n0 c0 n1 c1 z.1 z.2 _ _ (Nat.le_refl _) (hr.keep (keeps_below hba)) (hx.keep (keeps_below hba))
  cases h1 : arB z.1 z.2 with
  | false =>
    have E : Hid (brkR z ps = []) := Lib.hid (by unfold brkR; rw [h1]; rfl)
    rw [h1] at hall
    clear h1
    go_enter Tryz.func15, Tryz.ntmps15
    go_wp2_with fail
    refine hall.mono ?_; rintro e w1 ⟨rfl, hb1⟩
    have hw1 := below_then hb1 hba.size hba
    have hs1 := hw1.size
    clear hall q0 q1
    go_wp2
    go_ret
    exact ⟨_, rfl, by rw [E.out]; exact OI.empty (Nat.le_trans hB hs1), below_alloc hB (hw1.mono hB)⟩
  | true =>
    obtain ⟨⟨k1, k2, k3⟩, hE⟩ := arE h1 hr.len
    obtain rfl : n1 = n0 := by rw [← hx.len]; exact k3
    have H1 := Lib.hid h1
    rw [h1] at hall
    have I1 := Lib.hid (show inR (n1 : Int) 0 256 = true from decide_eq_true ⟨by omega, by omega⟩)
    clear h1
    cases h2 : pairsB ps (n1 : Int) with
    | false =>
      have E : Hid (brkR z ps = []) := Lib.hid (by unfold brkR; rw [HL.out, h2, Bool.and_false]; rfl)
      have H2 := Lib.hid h2
      clear h2
      go_enter Tryz.func15, Tryz.ntmps15
      go_wp2_with fail
      refine hall.mono ?_; rintro e w1 ⟨rfl, hb1⟩
      have hw1 := below_then hb1 hba.size hba
      replace bx := bx.below hb1 bx.lt
      clear hall q0 q1
      have q0 := bx.d0; have q1 := bx.d1
      go_wp2_with fail
      refine (specPairsOk _ _ _ ps _ _ (hp.keep (keeps_below hw1))).mono ?_; rintro e w2 ⟨rfl, qq2⟩
      rw [I1.out, H2.out]
      have hb2 := below_qt qq2 (Below.refl w1.heap.size w1)
      have hw2 := below_then hb2 hw1.size hw1
      have hs2 := hw2.size
      go_wp2
      go_ret
      exact ⟨_, rfl, by rw [E.out]; exact OI.empty (Nat.le_trans hB hs2), below_alloc hB (hw2.mono hB)⟩
    | true =>
      have hm : m ≤ 4 := by
        have h3 := h2
        unfold pairsB at h3
        rw [Bool.and_eq_true] at h3
        have h4 := of_decide_eq_true h3.1
        rw [hp.len] at h4; exact h4
      have E : Hid (brkR z ps = brkL z.2 n1 ps) := Lib.hid (by unfold brkR; rw [H1.out, HL.out, h2]; rfl)
      have H2 := Lib.hid h2
      have HE := Lib.hid hE
      have HPL := Lib.hid hp.len
      clear h2 hE
      go_enter Tryz.func15, Tryz.ntmps15
      go_wp2_with fail
      refine hall.mono ?_; rintro e w1 ⟨rfl, hb1⟩
      have hw1 := below_then hb1 hba.size hba
      replace bx := bx.below hb1 bx.lt
      clear hall q0 q1
      have q0 := bx.d0; have q1 := bx.d1
      go_wp2_with fail
      refine (specPairsOk _ _ _ ps _ _ (hp.keep (keeps_below hw1))).mono ?_; rintro e w2 ⟨rfl, qq2⟩
      rw [I1.out, H2.out]
      have hb2 := below_qt qq2 (Below.refl w1.heap.size w1)
      have hw2 := below_then hb2 hw1.size hw1
      replace bx := bx.below hb2 bx.lt
      clear q0 q1 hb1 hw1 hb2 qq2
      have q0 := bx.d0; have q1 := bx.d1
      have hs2 := hw2.size
      go_wp2_with fail
      go_region_held3 (fun w' => w'.cell? ⟨w.heap.size, 0, none⟩ = some (.slice A0 n1 c0) ∧ w'.cell? ⟨w.heap.size, 1, none⟩ = some (.slice A1 n1 c1))
        (refine ⟨?_, ?_⟩ <;> repeat (first | with_reducible assumption | with_reducible refine keepD ?_ | with_reducible refine keepA ?_))
        (first
          | (go_at_call 41
             refine (specBreaking A0 A1 P c0 c1 m d n1 z.2 ps _ _ (Nat.le_refl _) (hx.keep (keeps_below (Below.drew hw2))) (hp.keep (keeps_below (Below.drew hw2))) k2 (by omega) HE.out).mono ?_
             rintro e w3 ⟨g3, out3, rfl, ho3, hq3, hb3⟩
             replace hb3 := below_undrew hb3
             have hw3 := below_then hb3 hw2.size hw2
             have bx3 := bx.below hb3 bx.lt
             have q30 := bx3.d0
             have q31 := bx3.d1)
          | (go_at_call 40
             refine (specBefore A0 A1 (some ⟨g3, 0, none⟩) n1 c0 c1 n1 n1 z.2 out3 _ _ (Nat.le_refl _) (hx.keep (keeps_below hw3)) ho3.reads k1 k2 HE.out).mono ?_
             rintro e w4 ⟨g4, c4, out4, rfl, ho4, hq4, hb4⟩
             have hw4 := below_then hb4 hw3.size hw3
             have bx4 := bx3.below hb4 bx3.lt
             have q40 := bx4.d0
             have q41 := bx4.d1)
          | (go_at_call 39
             refine (l16List (some ⟨g4, 0, none⟩) n1 c4 out4 _ _ (Nat.le_refl _) ho4.reads (by omega)).mono ?_
             rintro e w5 ⟨v5, rfl, ho5, hb5⟩
             have hw5 := below_then hb5 hw4.size hw4
             have bx5 := bx4.below hb5 bx4.lt
             have q50 := bx5.d0
             have q51 := bx5.d1))
      have e5 : listM out4 = brkL z.2 n1 ps := by
        unfold brkL
        rw [HPL.out]
        refine list_brk hq4.1 (fun v _ => (hq4.2 v).trans (comes_cong (fun u => hq3.2 u) v))
      go_wp2
      go_ret
      exact ⟨_, rfl, by rw [E.out, ← e5]; exact ho5.more (Nat.le_trans hB hw4.size), hw5.mono hB⟩
end Go.Proofs.YtjjaolndencplaaGreat
namespace Go.Proofs.YtjjaolndencplaaGreat
open Go.RowKit

set_option maxRecDepth 100000 in
set_option maxHeartbeats 1600000 in
theorem predsOf (A0 A1 : Option Addr) (n0 c0 n1 c1 N : Nat) (n : List (List Int)) (w : World) (B : Nat) (hB : B ≤ w.heap.size) (hx : RII w A1 n1 c1 n) (hn0 : n0 = N) (hn1 : n1 = N) (hN : N ≤ 256)
    (hE : ∀ x, x < N → (gl n x).length ≤ 16 ∧ ∀ j, j < (gl n x).length → ∃ m : Nat, gi (gl n x) j = (m : Int) ∧ m < N) :
    Calls Tryz.prog 51 #[.agg #[.slice A0 n0 c0, .slice A1 n1 c1]] w fun e w' => ∃ (bb : Nat) (cs : List Value) (f : Nat → List Int), e = .returned (.slice (some ⟨bb, 0, none⟩) N N) ∧ BK w' B N bb cs f ∧ PB n N (fun _ _ => True) N 0 f ∧ Below B w w' := by
  subst hn0
  subst hn1
  have x1 := hx.cap; have x2 := hx.top
  have bx := Box.new w 30 #[.slice A0 n1 c0, .slice A1 n1 c1]
  have hba : Below w.heap.size w (w.alloc (.cells #[.slice A0 n1 c0, .slice A1 n1 c1] 30)) := below_alloc (Nat.le_refl _) (Below.refl _ _)
  have HZ : Hid ((w.alloc (.cells #[.slice A0 n1 c0, .slice A1 n1 c1] 30)).heap.size = w.heap.size + 1) := Lib.hid (by simp)
  have hsA : w.heap.size ≤ (w.alloc (.cells #[.slice A0 n1 c0, .slice A1 n1 c1] 30)).heap.size := by simp
  have HE := Lib.hid hE
  have q0 := bx.d0; have q1 := bx.d1
  obtain ⟨ib, hi, hz0, hz1, hz2⟩ := info_parts infoII'
  clear hE
  go_enter Tryz.func51, Tryz.ntmps51
  go_wp2_with (refine wpList_make_full _ rfl (.tmp 10) (.tmp 10) 28 rfl w.heap.size 27 ib (.slice none 0 0) 1 Tryz.underlying28 hi hz0 hz1 .i64 .i64 _ _ n1 rfl rfl rfl rfl (by rw [hz2]; omega) (by unfold maxLen; omega) hsA ?_; intro w1 hown hgrow; rw [HZ.out] at hown ⊢; have hb1 : Below w.heap.size w w1 := hba.grown hgrow (by simp) (by simp); have bx1 : Box w1 w.heap.size 30 #[.slice A0 n1 c0, .slice A1 n1 c1] := (hgrow.block _ bx.lt (by simp)).trans bx; have k0 := bx1.d0; have k1 := bx1.d1)
  rw [made_row] at hown
  have hK : BK w1 w.heap.size n1 (w.heap.size + 1) (List.replicate n1 (.slice none 0 0)) (fun _ => []) := ⟨hown, OL.nil rfl, Dis.nil⟩
  clear hown hgrow hba bx q0 q1
  go_loopw [15] (fun i wr => ∃ (k : Nat) (cs : List Value) (f : Nat → List Int), k ≤ n1 ∧ i = .int .i64 (k : Int) ∧ BK wr w.heap.size n1 (w.heap.size + 1) cs f ∧ Hid (PB n n1 (fun _ _ => True) k 0 f) ∧ Below w.heap.size w wr) (fun i _ => n1 - (intOf i).toNat)
  case atStart => exact ⟨0, _, _, Nat.zero_le _, rfl, hK, Lib.hid PB.start, hb1⟩
  case round =>
    clear hK hb1 bx1 k0 k1
    obtain ⟨k, cs, f, hk, rfl, hK, HI, hbr⟩ := hrel
    by_cases hlt : k < n1
    · obtain ⟨be, oe, A', n', c', hA', hce, hre⟩ := hx.at_ hlt
      subst hA'
      have ra1 := hre.cap; have ra2 := hre.top
      have HR := Lib.hid hre.len
      have HB := Lib.hid (HE.out k hlt)
      have hce0 := keeps_below hbr _ _ hce
      go_wp2
      go_loopw [22] (fun i wi => ∃ (j : Nat) (cs : List Value) (f : Nat → List Int), j ≤ n' ∧ i = .int .i64 (j : Int) ∧ BK wi w.heap.size n1 (w.heap.size + 1) cs f ∧ Hid (PB n n1 (fun _ _ => True) k j f) ∧ Below w.heap.size w wi) (fun i _ => n' - (intOf i).toNat)
      case atStart => exact ⟨0, cs, f, Nat.zero_le _, rfl, hK, HI, hbr⟩
      case round =>
        clear hK hbr hce0 HI
        obtain ⟨j, cs, f, hj, rfl, hK, HI, hbr⟩ := hrel
        have hsz := hbr.size
        by_cases hjl : j < n'
        · obtain ⟨bj, oj, hA2, hcj0⟩ := hre.at_ hjl
          subst hA2
          have hcj := keeps_below hbr _ _ hcj0
          obtain ⟨u, hu, hun⟩ := HB.out.2 j (by rw [HR.out]; exact hjl)
          have HU := Lib.hid hu
          rw [hu] at hcj
          obtain ⟨hcu, hfu⟩ := hK.cell hun
          have hou := hK.2.1 u (by rw [hK.len]; exact hun)
          have hll : (f u).length ≤ 4194304 := by have h1 := HI.out.few u hun; have h2 := HB.out.1; rw [HR.out] at h2; omega
          have HKK := Lib.hid hK
          clear hu
          go_wp2_with (at_builtin; refine wpList_pushI rfl (.tmp 31) (.tmp 33) rfl wr w.heap.size (gv cs u) (f u) rfl hou (k : Int) rfl hll hsz ?_; intro v3 w3 ho3 hb3 hc3 hat3; obtain ⟨A3, c3', hv3⟩ := ho3.form; rw [List.length_append, List.length_singleton] at hv3; subst hv3; have k3 := row_chg HKK.out.1 hc3 (fun z hz e => own_ne hou HKK.out.1 (by decide) z e hz); have c3 := row_cell k3 (j := u) (by omega); have f3 := World.ownsRow.frozenAt k3 u)
          have hKn := HKK.out.push hun hc3 ho3 hat3
          have hbn : Below w.heap.size w (w3.setCell ⟨w.heap.size + 1, u, none⟩ (.slice A3 ((f u).length + 1) c3')) := below_set (by show w.heap.size ≤ w.heap.size + 1; omega) (hbr.trans hb3)
          go_roundw
          case rel => exact ⟨j + 1, _, _, by omega, by go_num, hKn, Lib.hid (HI.out.yes (by rw [HR.out]; exact hjl) HU.out trivial), hbn⟩
          case measure => simp [intOf]; omega
        · obtain rfl : j = n' := by omega
          go_wp2
          exact ⟨⟨k + 1, cs, f, by omega, by go_num, hK, Lib.hid (HI.out.row (by rw [HR.out]; exact Nat.le_refl _) (by have := HB.out.1; rw [HR.out] at this; exact this)), hbr⟩, by simp [intOf]; omega⟩
    · obtain rfl : k = n1 := by omega
      go_wp2
      go_ret
      exact ⟨_, cs, f, rfl, ⟨row_more hK.1 hB, hK.2.1.more hB, hK.2.2⟩, HI.out, hbr.mono hB⟩
end Go.Proofs.YtjjaolndencplaaGreat
namespace Go.Proofs.YtjjaolndencplaaGreat
open Go.RowKit Go.Sort

/-- row against row, as the library compares them -/
def cmpL : List Int → List Int → Int
  | [], [] => 0
  | [], _ :: _ => -1
  | _ :: _, [] => 1
  | x :: a, y :: b => if x < y then -1 else if y < x then 1 else cmpL a b
theorem cmpL_self (x : List Int) : cmpL x x = 0 := by
  induction x with
  | nil => rfl
  | cons a r ih => unfold cmpL; rw [if_neg (by omega), if_neg (by omega)]; exact ih
theorem cmpL_tr : ∀ x y z : List Int, cmpL x y < 0 → cmpL y z < 0 → cmpL x z < 0
  | [], [], _ => fun h => by simp [cmpL] at h
  | [], _ :: _, [] => fun _ h => by simp [cmpL] at h
  | [], _ :: _, _ :: _ => fun _ _ => by simp [cmpL]
  | _ :: _, [], _ => fun h => by simp [cmpL] at h
  | _ :: _, _ :: _, [] => fun _ h => by simp [cmpL] at h
  | a :: x, b :: y, c :: z => fun h k => by
    have ih := cmpL_tr x y z
    unfold cmpL at h k ⊢
    split at h
    · split at k
      · rw [if_pos (by omega)]; decide
      · split at k
        · exact absurd k (by decide)
        · rw [if_pos (by omega)]; decide
    · split at h
      · exact absurd h (by decide)
      · split at k
        · rw [if_pos (by omega)]; decide
        · split at k
          · exact absurd k (by decide)
          · rw [if_neg (by omega), if_neg (by omega)]; exact ih h k
theorem cmpL_ntr : ∀ x y z : List Int, ¬ cmpL x y < 0 → ¬ cmpL y z < 0 → ¬ cmpL x z < 0
  | [], _, [] => fun _ _ => by simp [cmpL]
  | [], [], _ :: _ => fun _ k => by simp [cmpL] at k
  | [], _ :: _, _ :: _ => fun h _ => by simp [cmpL] at h
  | _ :: _, _, [] => fun _ _ => by simp [cmpL]
  | _ :: _, [], _ :: _ => fun _ k => by simp [cmpL] at k
  | a :: x, b :: y, c :: z => fun h k => by
    have ih := cmpL_ntr x y z
    unfold cmpL at h k ⊢
    split at h
    · exact absurd (by decide) h
    · split at k
      · exact absurd (by decide) k
      · split at h
        · rw [if_neg (by omega), if_pos (by omega)]; decide
        · split at k
          · rw [if_neg (by omega), if_pos (by omega)]; decide
          · rw [if_neg (by omega), if_neg (by omega)]; exact ih h k
theorem cmpL_left : ∀ {x : List Int} {k : Nat}, x.length ≤ k → ∀ y : List Int, k < y.length → cmpL (x.drop k) (y.drop k) = -1 := fun {x k} h y hy => by
  rw [List.drop_eq_nil_of_le h, List.drop_eq_getElem_cons hy]; rfl
theorem cmpL_step {x y : List Int} {k : Nat} (hx : k < x.length) (hy : k < y.length) : cmpL (x.drop k) (y.drop k) = if gi x k < gi y k then -1 else if gi y k < gi x k then 1 else cmpL (x.drop (k + 1)) (y.drop (k + 1)) := by
  rw [List.drop_eq_getElem_cons hx, List.drop_eq_getElem_cons hy]
  rw [show gi x k = x[k] by simp [gi, hx], show gi y k = y[k] by simp [gi, hy]]
  rfl

def cmpI (x y : Int) : Int := if x < y then -1 else if y < x then 1 else 0
theorem cmpInt (x y : Int) (w : World) : Calls Tryz.prog 79 #[.int .i64 x, .int .i64 y] w fun e w' => e = .returned (.int .i64 (cmpI x y)) ∧ Qt w w' := by
  by_cases h1 : x < y
  · have E : Hid (cmpI x y = -1) := Lib.hid (by unfold cmpI; rw [if_pos h1])
    go_enter Tryz.func79, Tryz.ntmps79
    go_wp2_with (go_at_call 80; refine (cmpNaN _ _).mono ?_; rintro e w' ⟨rfl, q, rfl⟩)
    go_ret
    exact ⟨ret_i E.out.symm, Qt.drewN _⟩
  · by_cases h2 : y < x
    · have E : Hid (cmpI x y = 1) := Lib.hid (by unfold cmpI; rw [if_neg h1, if_pos h2])
      go_enter Tryz.func79, Tryz.ntmps79
      go_wp2_with (go_at_call 80; refine (cmpNaN _ _).mono ?_; rintro e w' ⟨rfl, q, rfl⟩)
      go_ret
      exact ⟨ret_i E.out.symm, Qt.drewN _⟩
    · have E : Hid (cmpI x y = 0) := Lib.hid (by unfold cmpI; rw [if_neg h1, if_neg h2])
      go_enter Tryz.func79, Tryz.ntmps79
      go_wp2_with (go_at_call 80; refine (cmpNaN _ _).mono ?_; rintro e w' ⟨rfl, q, rfl⟩)
      go_ret
      exact ⟨ret_i E.out.symm, Qt.drewN _⟩
set_option maxHeartbeats 800000 in
theorem slCmp (A1 A2 : Option Addr) (n1 c1 n2 c2 : Nat) (xs ys : List Int) (w : World) (ha : RI w A1 n1 c1 xs) (hb : RI w A2 n2 c2 ys) :
    Calls Tryz.prog 69 #[.slice A1 n1 c1, .slice A2 n2 c2] w fun e w' => e = .returned (.int .i64 (cmpL xs ys)) ∧ Qt w w' := by
  have a1 := ha.cap; have a2 := ha.top
  have b1 := hb.cap; have b2 := hb.top
  have HA := Lib.hid ha.len
  have HB := Lib.hid hb.len
  go_enter Tryz.func69, Tryz.ntmps69
  go_wp2
  go_loopw [11] (fun i wr => ∃ k : Nat, k ≤ n1 ∧ i = .int .i64 k ∧ Hid (k ≤ n2) ∧ Hid (cmpL xs ys = cmpL (xs.drop k) (ys.drop k)) ∧ Qt w wr) (fun i _ => n1 - (intOf i).toNat)
  case atStart => exact ⟨0, Nat.zero_le _, rfl, Lib.hid (Nat.zero_le _), Lib.hid rfl, Qt.refl _⟩
  case round =>
    obtain ⟨k, hk, rfl, HK, HE, hq⟩ := hrel
    have ha' := ha.keep hq.keeps
    have hb' := hb.keep hq.keeps
    by_cases hlt : k < n1
    · obtain ⟨b, off, rfl, hc1⟩ := ha'.at_ hlt
      by_cases hl2 : n2 ≤ k
      · have E : Hid (cmpL xs ys = 1) := Lib.hid (by
          rw [HE.out, show ys.drop k = [] from List.drop_eq_nil_of_le (by have := HB.out; omega), List.drop_eq_getElem_cons (by rw [HA.out]; exact hlt)]; rfl)
        go_wp2
        go_ret
        exact ⟨ret_i (by rw [E.out]), hq⟩
      · have hl3 : k < n2 := by omega
        obtain ⟨b', off', rfl, hc2⟩ := hb'.at_ hl3
        have HS := Lib.hid (cmpL_step (x := xs) (y := ys) (k := k) (by rw [HA.out]; exact hlt) (by rw [HB.out]; exact hl3))
        have hcc := cmpInt (gi xs k) (gi ys k) wr
        by_cases he : cmpI (gi xs k) (gi ys k) = 0
        · have HE2 : Hid (cmpL xs ys = cmpL (xs.drop (k + 1)) (ys.drop (k + 1))) := Lib.hid (by
            rw [HE.out, HS.out]
            unfold cmpI at he
            split at he
            · exact absurd he (by decide)
            · rename_i h1
              split at he
              · exact absurd he (by decide)
              · rename_i h2; rw [if_neg h1, if_neg h2])
          rw [he] at hcc
          clear he
          go_wp2_with fail
          refine hcc.mono ?_; rintro e w' ⟨rfl, q, rfl⟩
          clear hcc
          go_wp2
          go_roundw
          case rel => exact ⟨k + 1, by omega, by go_num, Lib.hid (by omega), HE2, hq.trans (Qt.drewN _)⟩
          case measure => simp [intOf]; omega
        · have HE2 : Hid (cmpL xs ys = cmpI (gi xs k) (gi ys k)) := Lib.hid (by
            rw [HE.out, HS.out]
            unfold cmpI at he ⊢
            split
            · rfl
            · split
              · rfl
              · rename_i h1 h2; rw [if_neg h1, if_neg h2] at he; exact absurd rfl he)
          generalize cmpI (gi xs k) (gi ys k) = r at hcc he HE2
          go_wp2_with fail
          refine hcc.mono ?_; rintro e w' ⟨rfl, q, rfl⟩
          clear hcc
          go_wp2
          go_ret
          exact ⟨ret_i (by rw [HE2.out]), hq.trans (Qt.drewN _)⟩
    · obtain rfl : k = n1 := by omega
      by_cases hl2 : k < n2
      · have E : Hid (cmpL xs ys = -1) := Lib.hid (by rw [HE.out]; exact cmpL_left (by have := HA.out; omega) ys (by have := HB.out; omega))
        go_wp2
        go_ret
        exact ⟨ret_i (by rw [E.out]), hq⟩
      · have E : Hid (cmpL xs ys = 0) := Lib.hid (by
          have h1 := HA.out; have h2 := HB.out; have h3 := HK.out
          rw [HE.out, show xs.drop k = [] from List.drop_eq_nil_of_le (by omega), show ys.drop k = [] from List.drop_eq_nil_of_le (by omega)]; rfl)
        go_wp2
        go_ret
        exact ⟨ret_i (by rw [E.out]), hq⟩

/-- a row that stays, whatever turns in block g -/
def RowAt (w : World) (g : Nat) : Type := { p : Value × List Int // ∀ w', Chg (fun b => b = g) w w' → RIv w' p.1 p.2 }
instance (w : World) (g : Nat) : Inhabited (RowAt w g) := ⟨⟨(.slice none 0 0, []), fun _ _ => ⟨none, 0, 0, rfl, RI.of_nil⟩⟩⟩
def RowAt.val {w : World} {g : Nat} (x : RowAt w g) : Value := x.1.1
def RowAt.row {w : World} {g : Nat} (x : RowAt w g) : List Int := x.1.2
theorem RowAt.one {w : World} {g : Nat} : Go.Proofs.OneCell (RowAt.val (w := w) (g := g)) := fun x => by
  obtain ⟨A, n, c, e, _⟩ := x.2 w (Chg.refl _ _)
  show (x.1.1).oneCell' = true
  rw [e]; rfl
theorem sort_chg {α : Type} [Inhabited α] (enc : α → Value) (w : World) (g m : Nat) (dk : Array α) (os : Array Obj) : Chg (fun b => b = g) w (sortWorld enc w g 0 m dk os) := by
  refine ⟨rfl, rfl, rfl, by simp [sortWorld], fun k hk hne => ?_⟩
  unfold sortWorld
  rw [heap_grow_old _ _ (by simpa using hk)]
  have : g ≠ k := fun e => hne e.symm
  simp [putRow, mapBlock, Sort.ahead, Array.getElem?_modify, this]
def cmpR {w : World} {g : Nat} (x y : RowAt w g) : Int := cmpL x.row y.row
theorem cmpR_swo {w : World} {g : Nat} : SWO (Go.Proofs.ltOf (cmpR (w := w) (g := g))) where
  irrefl x := by unfold Go.Proofs.ltOf cmpR; rw [cmpL_self]; rfl
  trans x y z h k := by unfold Go.Proofs.ltOf cmpR at *; exact decide_eq_true (cmpL_tr _ _ _ (of_decide_eq_true h) (of_decide_eq_true k))
  ntrans x y z h k := by unfold Go.Proofs.ltOf cmpR at *; exact decide_eq_false (cmpL_ntr _ _ _ (of_decide_eq_false h) (of_decide_eq_false k))
theorem cmpR_lays (w : World) (g size : Nat) : Go.Proofs.CmpLays1 Tryz.prog 69 #[] (RowAt.val (w := w) (g := g)) cmpR g 0 size w := by
  intro m os dk _ x y
  obtain ⟨A1, n1, c1, e1, h1⟩ := x.2 _ (sort_chg RowAt.val w g m dk os)
  obtain ⟨A2, n2, c2, e2, h2⟩ := y.2 _ (sort_chg RowAt.val w g m dk os)
  have h := slCmp A1 A2 n1 c1 n2 c2 _ _ _ h1 h2
  show Calls _ _ (#[x.1.1, y.1.1] ++ #[]) _ _
  rw [e1, e2]
  refine h.mono ?_
  rintro e w' ⟨rfl, q, rfl⟩
  exact ⟨rfl, q, #[], by rw [grow_empty]⟩
theorem cmp_enters (args : Array Value) (w : World) : (callFunc 69 args).run Tryz.prog w = .ok (.enter 69 args) w := by kernel_rfl
/-- rows sorted: the same rows, otherwise ordered -/
theorem slSortRows {g c : Nat} {E : List (List Int)} (w : World) (d : Array (RowAt w g)) (hd : d.toList.map RowAt.row = E) (hH : Holds RowAt.val w g 0 d) (hg : g < w.heap.size) (hs : E.length ≤ 4194304) (hc1 : E.length ≤ c) (hc2 : c ≤ 9223372036854775807) :
    Calls Tryz.prog 68 #[.slice (some ⟨g, 0, none⟩) E.length c, .func (.func 69) #[] #[]] w fun e w' => e = .returned (.tuple #[]) ∧ ∃ E', E'.Perm E ∧ RII w' (some ⟨g, 0, none⟩) E.length c E' ∧ Chg (fun b => b = g) w w' := by
  have hdl : d.size = E.length := by rw [← hd, List.length_map, Array.length_toList]
  have h := Any.slices_SortFunc Tryz.lSortF RowAt.val RowAt.one cmpR cmpR_swo 69 #[] g 0 c d w cmp_enters (cmpR_lays w g d.size) hH hg (by omega)
  change Calls Tryz.prog 68 _ _ _ at h
  rw [hdl] at h
  refine h.mono ?_
  rintro e w' ⟨he, d', n, os, hp, _, rfl⟩
  have hz : d'.size = d.size := hp.1
  have hch := sort_chg RowAt.val w g n d' os
  have hh := Go.Proofs.holds_sortWorld RowAt.val w g 0 n d d' os hg hH hz
  refine ⟨he, d'.toList.map RowAt.row, ?_, ?_, hch⟩
  · rw [← hd]
    have h3 := hp.2.2
    rw [← hdl] at h3
    simp only [Array.toList_extract, Nat.sub_zero, List.extract_eq_take_drop, List.drop_zero] at h3
    rw [List.take_of_length_le (by rw [Array.length_toList]; omega), List.take_of_length_le (by rw [Array.length_toList]; omega)] at h3
    exact h3.map _
  · refine ⟨by rw [List.length_map, Array.length_toList]; omega, ⟨hc1, hc2⟩, fun i hi => ?_⟩
    have hi' : i < d'.size := by omega
    have h4 := (hh i hi').1
    obtain ⟨A', n', c', e1, h1⟩ := (d'[i]!).2 _ hch
    refine ⟨g, 0, A', n', c', rfl, ?_, ?_⟩
    · rw [h4, ← e1]; rfl
    · have e5 : gl (d'.toList.map RowAt.row) i = (d'[i]!).1.2 := by
        simp [gl, List.getElem?_map, hi', getElem!_pos, RowAt.row]
      rw [e5]; exact h1
theorem OLR.form2 {w0 w : World} {lo : Nat} {v : Value} {E : List (List Int)} (h : OLR w0 w lo v E) (h0 : 0 < E.length) : ∃ g c, v = .slice (some ⟨g, 0, none⟩) E.length c := by
  obtain ⟨cs, h1, _⟩ := h
  rcases h1.2 with ⟨_, e⟩ | ⟨g, cap, cur, e, _⟩
  · omega
  · exact ⟨g, cap, e⟩
theorem sortOLR {lo g c : Nat} {E : List (List Int)} (w0 w : World) (h : OLR w0 w lo (.slice (some ⟨g, 0, none⟩) E.length c) E) (hk : ∀ w', Chg (fun b => b = g) w w' → Keeps w0 w') (hs : E.length ≤ 4194304) :
    Calls Tryz.prog 68 #[.slice (some ⟨g, 0, none⟩) E.length c, .func (.func 69) #[] #[]] w fun e w' => e = .returned (.tuple #[]) ∧ ∃ E', E'.Perm E ∧ RII w' (some ⟨g, 0, none⟩) E.length c E' ∧ Chg (fun b => b = g) w w' := by
  have hr := h.reads (hk w (Chg.refl _ _))
  obtain ⟨cs, h1, h2⟩ := h
  have hcl : cs.length = E.length := by have := row_len h1; omega
  have hgl : g < w.heap.size := (World.ownsRow.lt h1 g rfl).2
  have stay : ∀ j, j < E.length → ∀ w', Chg (fun b => b = g) w w' → RIv w' (gv cs j) (gl E j) := fun j hj w' hw => by
    rcases h2 j hj with k | k
    · exact k.keep (hk w' hw)
    · exact (k.chg hw (fun b hb e => own_ne k h1 (by decide) b hb (by rw [e]; rfl))).rv
  let mk : Fin E.length → RowAt w g := fun j => ⟨(gv cs j.1, gl E j.1), stay j.1 j.2⟩
  obtain ⟨D, hDD⟩ : ∃ D : List (RowAt w g), D = List.ofFn mk := ⟨_, rfl⟩
  have hDl : D.length = E.length := by rw [hDD]; exact List.length_ofFn
  have hD : ∀ j (hj : j < E.length), D[j]'(by rw [hDl]; exact hj) = (⟨(gv cs j, gl E j), stay j hj⟩ : RowAt w g) := fun j hj => by
    subst hDD
    exact List.getElem_ofFn _
  refine slSortRows w D.toArray ?_ ?_ hgl hs hr.cap hr.top
  · refine List.ext_getElem (by simp [hDl]) fun j h3 h4 => ?_
    simp only [List.getElem_map]
    rw [hD j h4]
    simp [RowAt.row, gl, h4]
  · intro j hj
    have hj' : j < E.length := by simpa [hDl] using hj
    have e1 : D.toArray[j]! = (⟨(gv cs j, gl E j), stay j hj'⟩ : RowAt w g) := by
      rw [getElem!_pos D.toArray j (by simpa [hDl] using hj')]
      simpa using hD j hj'
    rw [e1, Nat.zero_add]
    exact ⟨row_cell h1 (by omega), World.ownsRow.frozenAt h1 j⟩
end Go.Proofs.YtjjaolndencplaaGreat
