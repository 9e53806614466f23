/- Texts that the proof reaches: Plan, Stay, Acc, Ranks, Attr, Plan2, Pull, OftP, Beyond, Dice. -/
import Derived.Test.YtblmcmccdeelgaaBn1
import Derived.Deep.RegionHeld3
import Derived.IntWalk
import Derived.StillTailTactics
import Derived.Deep.RegionLaw
namespace Go.Proofs.Ytblmcmccdeelgaa
open Go.RowKit

theorem infoI2 : (Try.prog.info? 2).map (fun i => (i.zero, i.size, i.bytes)) = some (some (.int .i64 0), 1, 8) := by kernel_rfl
set_option maxRecDepth 100000 in
theorem wpList_makeI {ops : Array Oper} {rest : List Oper} {o : Oper} {a : Act} {Q : Exit → Act → World → Prop} (hgd : o.guard = none) (s : Operand) (ho : o.op = .makeSlice 27 s s)
    (w : World) (n : Nat) (hs : a.eval s = .int .i64 n) (hn : n ≤ 1048576)
    (h : ∀ w', OI 2 w' w.heap.size (.slice (some ⟨w.heap.size, 0, none⟩) n n) (List.replicate n 0) → Below w.heap.size w w' → wpList Try.prog ops Q rest (a.put o.dst (.slice (some ⟨w.heap.size, 0, none⟩) n n)) w') : wpList Try.prog ops Q (o :: rest) a w := by
  obtain ⟨i0, hi0, hz0, hz1, hz2⟩ := info_parts infoI2
  refine wpList_make_full w hgd s s 27 ho w.heap.size 2 i0 (.int .i64 0) 1 Try.underlying27 hi0 hz0 hz1 .i64 .i64 _ _ n hs hs rfl rfl (by rw [hz2]; omega) (by unfold maxLen; omega) (Nat.le_refl _) ?_
  intro w1 hown hgrow
  exact h w1 (OI.made hown rfl) ((Below.refl _ _).grown hgrow (Nat.le_refl _) (by simp))

/-- the list of a function's values, those from k on still d -/
def fillUp (f : Nat → Int) (n : Nat) (g : Nat → Int) (k : Nat) : List Int := (List.range n).map fun i => if i < k then f i else g i
theorem fillUp_len (f g : Nat → Int) (n k : Nat) : (fillUp f n g k).length = n := by simp [fillUp]
theorem fillUp_at {f g : Nat → Int} {n k i : Nat} (h : i < n) : gi (fillUp f n g k) i = if i < k then f i else g i := by
  rw [gi_get (by rw [fillUp_len]; exact h)]
  simp [fillUp]
theorem fillUp_put {f g : Nat → Int} {n k : Nat} (h : k < n) : (fillUp f n g k).set k (f k) = fillUp f n g (k + 1) := by
  refine gi_ext (by simp [fillUp_len]) fun j hj => ?_
  rw [List.length_set, fillUp_len] at hj
  rw [gi_set (by rw [fillUp_len]; exact h), fillUp_at hj, fillUp_at hj]
  by_cases e : k = j
  · subst e; rw [if_pos rfl, if_pos (by omega)]
  · rw [if_neg e]
    by_cases e2 : j < k
    · rw [if_pos e2, if_pos (by omega)]
    · rw [if_neg e2, if_neg (by omega)]
theorem fillUp_same {f g : Nat → Int} {n k : Nat} (h : f k = g k) : fillUp f n g (k + 1) = fillUp f n g k := by
  refine gi_ext (by simp [fillUp_len]) fun j hj => ?_
  rw [fillUp_len] at hj
  rw [fillUp_at hj, fillUp_at hj]
  by_cases e : k = j
  · subst e; rw [if_pos (by omega), if_neg (by omega), h]
  · by_cases e2 : j < k
    · rw [if_pos e2, if_pos (by omega)]
    · rw [if_neg e2, if_neg (by omega)]
def fill (f : Nat → Int) (n : Nat) : List Int := (List.range n).map f
theorem fill_len (f : Nat → Int) (n : Nat) : (fill f n).length = n := by simp [fill]
theorem fill_at {f : Nat → Int} {n i : Nat} (h : i < n) : gi (fill f n) i = f i := by
  rw [gi_get (by rw [fill_len]; exact h)]; simp [fill]
theorem fillUp_zero (f g : Nat → Int) (n : Nat) : fillUp f n g 0 = fill g n := by unfold fillUp fill; exact List.map_congr_left fun i _ => by simp
theorem fillUp_full (f g : Nat → Int) (n : Nat) : fillUp f n g n = fill f n := by
  unfold fillUp fill
  exact List.map_congr_left fun i hi => by rw [if_pos (List.mem_range.1 hi)]
theorem fill_zeros (n : Nat) : List.replicate n 0 = fill (fun _ => 0) n := by
  unfold fill
  induction n with
  | zero => rfl
  | succ n ih => rw [List.range_succ, List.map_append, ← ih, List.replicate_succ']; rfl
theorem fill_succ (f : Nat → Int) (n : Nat) : fill f (n + 1) = fill f n ++ [f n] := by
  unfold fill
  rw [List.range_succ, List.map_append]; rfl
def negL (n : Nat) : List Int := fill (fun _ => -1) n

set_option maxRecDepth 100000 in
set_option maxHeartbeats 400000 in
theorem noPlan (A0 A1 : Option Addr) (n0 c0 n1 c1 : Nat) (w : World) (B : Nat) (hB : B ≤ w.heap.size) (hn : n0 ≤ 1048576) :
    Calls Try.prog 48 #[.agg #[.slice A0 n0 c0, .slice A1 n1 c1]] w fun e w' => ∃ v, e = .returned v ∧ OI 2 w' B v (negL n0) ∧ Below B w w' := by
  have q0 := (Box.new w 30 #[.slice A0 n0 c0, .slice A1 n1 c1]).d0
  have hba : Below w.heap.size w (w.alloc (.cells #[.slice A0 n0 c0, .slice A1 n1 c1] 30)) := below_alloc (Nat.le_refl _) (Below.refl _ _)
  have hsz : (w.alloc (.cells #[.slice A0 n0 c0, .slice A1 n1 c1] 30)).heap.size = w.heap.size + 1 := by simp
  have HZ := Lib.hid hsz; clear hsz
  go_enter Try.func48, Try.ntmps48
  go_wp2_with (refine wpList_makeI rfl (.tmp 7) rfl _ n0 rfl hn ?_; intro w1 hown hb1; rw [HZ.out] at hown ⊢; replace hb1 := below_then hb1 hba.size hba; replace hown := hown.more (lo' := w.heap.size) (by omega); clear hba q0)
  go_loopw [11] (fun i wr => ∃ k : Nat, k ≤ n0 ∧ i = .int .i64 k ∧ OI 2 wr w.heap.size (.slice (some ⟨w.heap.size + 1, 0, none⟩) n0 n0) (fillUp (fun _ => -1) n0 (fun _ => 0) k) ∧ Below w.heap.size w wr) (fun i _ => n0 - (intOf i).toNat)
  case atStart => exact ⟨0, Nat.zero_le _, rfl, by rw [fillUp_zero, ← fill_zeros]; exact hown, hb1⟩
  case round =>
    obtain ⟨k, hk, rfl, ho, hbr⟩ := hrel
    by_cases hlt : k < n0
    · have hcm := ho.cellAt (i := k) (by rw [fillUp_len]; exact hlt)
      have hfz := ho.hot (i := k) (by rw [fillUp_len])
      have HX := Lib.hid (fillUp_put (f := fun _ => -1) (g := fun _ => 0) hlt)
      have HO := Lib.hid ho
      clear ho
      go_wp2
      go_roundw
      case rel => exact ⟨k + 1, by omega, by go_num, by rw [← HX.out]; exact HO.out.set_ (by rw [fillUp_len]) (-1), below_set (by show w.heap.size ≤ w.heap.size + 1; omega) hbr⟩
      case measure => simp [intOf]; omega
    · obtain rfl : k = n0 := by omega
      have HE := Lib.hid (fillUp_full (fun _ => -1) (fun _ => 0) k)
      go_wp2
      go_ret
      exact ⟨_, rfl, by unfold negL; rw [← HE.out]; exact ho.more hB, hbr.mono hB⟩

/-! ### the first successor that is allowed -/
def firstU (al : Nat → Bool) (ns : List Int) : Nat → Int
  | 0 => -1
  | k + 1 => if firstU al ns k < 0 then (if al (gi ns k).toNat = true then gi ns k else -1) else firstU al ns k
theorem firstU_none {al : Nat → Bool} {ns : List Int} : ∀ {k : Nat}, (∀ j, j < k → al (gi ns j).toNat = false) → firstU al ns k = -1
  | 0, _ => rfl
  | k + 1, h => by
    rw [firstU, if_pos (by rw [firstU_none fun j hj => h j (by omega)]; omega), h k (by omega)]
    rfl
theorem firstU_hit {al : Nat → Bool} {ns : List Int} {k m : Nat} (hm : gi ns k = (m : Int)) (h1 : al m = true) (h : ∀ j, j < k → al (gi ns j).toNat = false) : ∀ {n : Nat}, k < n → firstU al ns n = (m : Int)
  | 0, hn => absurd hn (by omega)
  | n + 1, hn => by
    by_cases e : k = n
    · subst e
      rw [firstU, if_pos (by rw [firstU_none h]; omega), hm]
      simp [h1]
    · rw [firstU, firstU_hit hm h1 h (show k < n by omega), if_neg (by omega)]
def leastV (o : List Int) (n : List (List Int)) (who : Int) (ins : List Bool) (al : Nat → Nat → Bool) (v : Nat) : Int := if gb ins v = true ∧ gi o v = who then firstU (al v) (gl n v) (gl n v).length else -1
def planL (o : List Int) (n : List (List Int)) (who : Int) (ins : List Bool) (al : Nat → Nat → Bool) : List Int := fill (leastV o n who ins al) o.length

set_option maxRecDepth 100000 in
set_option maxHeartbeats 1600000 in
theorem firstMoves (al : Nat → Nat → Bool) (f : FuncId) (cap : Array Value) (A0 A1 D : Option Addr) (n0 c0 n1 c1 m d : Nat) (o : List Int) (n : List (List Int)) (who : Int) (ms : List Bool) (w : World) (B : Nat) (hB : B ≤ w.heap.size) (ha : RI w A0 n0 c0 o) (hb : RII w A1 n1 c1 n) (hm : RB w D m d ms) (hf : fineAr o n) (hml : m = n0)
    (hcf : ∀ (args : Array Value) (w : World), (callFunc f args).run Try.prog w = .ok (.enter f args) w)
    (hk : ∀ (w' : World) (v u : Nat), Below w.heap.size w w' → v < n0 → u < n0 → Calls Try.prog f (#[.int .i64 (v : Int), .int .i64 (u : Int)] ++ cap) w' fun e w'' => e = .returned (.bool (al v u)) ∧ Below w'.heap.size w' w'') :
    Calls Try.prog 33 #[.agg #[.slice A0 n0 c0, .slice A1 n1 c1], .int .i64 who, .slice D m d, .func (.func f) #[] cap] w fun e w' => ∃ v, e = .returned v ∧ OI 2 w' B v (planL o n who ms al) ∧ Below B w w' := by
  have HK := Lib.hid hk; have HML := Lib.hid hml
  clear hk hml
  have b1 := ha.cap; have b2 := ha.top; have b3 := hb.cap; have b4 := hb.top; have b5 := hm.cap; have b6 := hm.top
  have HL := Lib.hid ha.len; have HM := Lib.hid hb.len
  have hn0 : n0 ≤ 1048576 := by have := hf.2.1; rw [HL.out] at this; omega
  have h01 : n1 = n0 := by rw [← HM.out, hf.2.2.1, HL.out]
  have HF := Lib.hid hf
  clear hf
  have H01 := Lib.hid h01; clear h01
  have hba : Below w.heap.size w (w.alloc (.cells #[.slice A0 n0 c0, .slice A1 n1 c1] 30)) := below_alloc (Nat.le_refl _) (Below.refl _ _)
  have bx := Box.new w 30 #[.slice A0 n0 c0, .slice A1 n1 c1]
  have q0 := bx.d0; have q1 := bx.d1
  go_enter Try.func33, Try.ntmps33
  go_wp2_with fail
  refine (noPlan _ _ _ _ _ _ _ _ (Nat.le_refl _) hn0).mono ?_; rintro e w1 ⟨v1, rfl, ho1, hb1'⟩
  have hb1 := below_then hb1' hba.size hba
  have bx1 := bx.below hb1' bx.lt
  have hneg : (negL n0).length = n0 := fill_len _ _
  have hn0p : 0 < n0 := by have := HF.out.1; rw [HL.out] at this; omega
  obtain ⟨g, cg, hv1⟩ : ∃ g cg, v1 = .slice (some ⟨g, 0, none⟩) n0 cg := by
    rcases ho1.2 with ⟨_, hn⟩ | ⟨g, cap', cur, rfl, _⟩
    · omega
    · exact ⟨g, cap', by rw [hneg]⟩
  subst hv1
  replace ho1 := ho1.more (lo' := w.heap.size + 1) (by simp)
  have r0 := bx1.d0; have r1 := bx1.d1
  clear hba bx q0 q1 hneg
  go_wp2
  go_loopw [19] (fun i wr => ∃ k : Nat, k ≤ n1 ∧ i = .int .i64 k ∧ OI 2 wr (w.heap.size + 1) (.slice (some ⟨g, 0, none⟩) n0 cg) (fillUp (leastV o n who ms al) n0 (fun _ => -1) k) ∧ Box wr w.heap.size 30 #[.slice A0 n0 c0, .slice A1 n1 c1] ∧ Below w.heap.size w wr) (fun i _ => n1 - (intOf i).toNat)
  case atStart => exact ⟨0, Nat.zero_le _, rfl, by rw [fillUp_zero]; exact ho1, bx1, hb1⟩
  case round =>
    obtain ⟨wo, rfl⟩ : ∃ wo : World, wo = wr := ⟨_, rfl⟩
    obtain ⟨k, hk, rfl, ho, bxr, hbr⟩ := hrel
    have HO := Lib.hid ho
    clear ho ho1 bx1 r0 r1
    by_cases hlt : k < n1
    · have hlt0 : k < n0 := by have := H01.out; omega
      obtain ⟨ba, oa, rfl, hcA⟩ := (ha.keep (keeps_below hbr)).at_ hlt0
      obtain ⟨bn, on, An, nn, cn, rfl, hcN, rn⟩ := (hb.keep (keeps_below hbr)).at_ hlt
      obtain ⟨bm, om, rfl, hcM⟩ := (hm.keep (keeps_below hbr)).at_ (i := k) (by rw [HML.out]; exact hlt0)
      obtain ⟨_, ⟨hd1, hd2⟩, hset⟩ := HF.out.2.2.2 k (by rw [HL.out]; exact hlt0)
      rw [HL.out] at hset
      rw [rn.len] at hd1 hd2
      have HN := Lib.hid rn.len
      have HSET := Lib.hid hset; clear hset
      have bn1 := rn.cap; have bn2 := rn.top
      have q0 := bxr.d0; have q1 := bxr.d1
      have hkm : k < m := by rw [HML.out]; exact hlt0
      by_cases hcond : gb ms k = true ∧ gi o k = who
      · have E := Lib.hid (show leastV o n who ms al k = firstU (al k) (gl n k) nn by unfold leastV; rw [if_pos hcond, HN.out])
        obtain ⟨hg, hw⟩ := hcond
        rw [hg] at hcM
        have hne : (gi o k != who) = false := by simp [hw]
        clear hw hg
        go_wp2
        go_loopw [40] (fun i wr => ∃ j : Nat, j ≤ nn ∧ i = .int .i64 j ∧ (∀ t, t < j → al k (gi (gl n k) t).toNat = false) ∧ Below wo.heap.size wo wr) (fun i _ => nn - (intOf i).toNat)
        case atStart => exact ⟨0, Nat.zero_le _, rfl, by omega, Below.refl _ _⟩
        case round =>
          obtain ⟨j, hj, rfl, hall, hbi⟩ := hrel
          have HA := Lib.hid hall
          clear hall
          have hb2 := below_then hbi hbr.size hbr
          have bx2 := bxr.below hbi bxr.lt
          by_cases hjl : j < nn
          · obtain ⟨u, hu, hun⟩ := set_nat HSET.out (show j < (gl n k).length by rw [HN.out]; exact hjl)
            obtain ⟨bu, ou, rfl, hcU⟩ := (rn.keep (keeps_below hbi)).at_ hjl
            rw [hu] at hcU
            have hcall := HK.out wr k u hb2 hlt0 hun
            have HU := Lib.hid hu
            clear hu
            cases hal : al k u with
            | false =>
              rw [hal] at hcall
              have HN2 := Lib.hid (show al k (gi (gl n k) j).toNat = false by rw [HU.out]; exact hal)
              clear hal
              go_wp2_with fail
              refine hcall.mono ?_; rintro e w2 ⟨rfl, hb3⟩
              go_wp2
              go_roundw
              case rel => exact ⟨j + 1, by omega, by go_num, all_succ HA.out HN2.out, below_then hb3 hbi.size hbi⟩
              case measure => simp [intOf]; omega
            | true =>
              rw [hal] at hcall
              have X := Lib.hid (E.out.trans (firstU_hit HU.out hal HA.out hjl))
              have Y := Lib.hid (fillUp_put (f := leastV o n who ms al) (g := fun _ => -1) hlt0)
              clear hal
              go_wp2_with fail
              refine hcall.mono ?_; rintro e w2 ⟨rfl, hb3⟩
              have hbw := below_then hb3 hbi.size hbi
              have ho3 := HO.out.below hbw
              have bx3 := bxr.below hbw bxr.lt
              have hcm := ho3.cellAt (i := k) (by rw [fillUp_len]; exact hlt0)
              have hfz := ho3.hot (i := k) (by rw [fillUp_len])
              have hgl : w.heap.size + 1 ≤ g := (ho3.lt g rfl).1
              have HO3 := Lib.hid ho3
              have hkn : (k : Int) < (n0 : Int) := by omega
              clear ho3
              go_wp2
              exact ⟨⟨k + 1, by omega, by go_num, by rw [← Y.out, X.out]; exact HO3.out.set_ (by rw [fillUp_len]) _, bx3.far (by show w.heap.size ≠ g; omega) _, below_set (by show w.heap.size ≤ g; omega) (below_then hbw hbr.size hbr)⟩, by simp [intOf]; omega⟩
          · obtain rfl : j = nn := by omega
            have X := Lib.hid (E.out.trans (firstU_none HA.out))
            have Y := Lib.hid (fillUp_same (f := leastV o n who ms al) (g := fun _ => -1) (n := n0) (k := k) X.out)
            have ho3 := HO.out.below hbi
            go_wp2
            exact ⟨⟨k + 1, by omega, by go_num, by rw [Y.out]; exact ho3, bx2, hb2⟩, by simp [intOf]; omega⟩
      · have X := Lib.hid (show leastV o n who ms al k = -1 from if_neg hcond)
        have Y := Lib.hid (fillUp_same (f := leastV o n who ms al) (g := fun _ => -1) (n := n0) (k := k) X.out)
        cases hg : gb ms k with
        | false =>
          rw [hg] at hcM
          clear hcond
          go_wp2
          exact ⟨⟨k + 1, by omega, by go_num, by rw [Y.out]; exact HO.out, bxr, hbr⟩, by simp [intOf]; omega⟩
        | true =>
          have hne : (gi o k != who) = true := by
            simp only [hg, true_and] at hcond
            simpa using hcond
          rw [hg] at hcM
          clear hcond
          go_wp2
          exact ⟨⟨k + 1, by omega, by go_num, by rw [Y.out]; exact HO.out, bxr, hbr⟩, by simp [intOf]; omega⟩
    · obtain rfl : k = n1 := by omega
      have Y := Lib.hid (show fillUp (leastV o n who ms al) n0 (fun _ => -1) k = planL o n who ms al by rw [H01.out, fillUp_full]; unfold planL; rw [HL.out])
      go_wp2
      go_ret
      exact ⟨_, rfl, by rw [← Y.out]; exact HO.out.more (by omega), hbr.mono hB⟩
end Go.Proofs.Ytblmcmccdeelgaa
namespace Go.Proofs.Ytblmcmccdeelgaa
open Go.RowKit

/-- the marks of the greatest set that who need not leave -/
noncomputable def stayM (o : List Int) (n : List (List Int)) (who : Int) (s : List Int) : List Bool := gfp (intoB o n who) o.length (mkM o.length s)
set_option maxRecDepth 100000 in
theorem stayFn (A0 A1 D : Option Addr) (n0 c0 n1 c1 m d : Nat) (o : List Int) (n : List (List Int)) (who : Int) (v : Nat) (ms : List Bool) (ba bw : Nat) (w : World) (B : Nat) (hB : B ≤ w.heap.size) (hba : Box w ba 30 #[.slice A0 n0 c0, .slice A1 n1 c1]) (hbw : w.cell? ⟨bw, 0, none⟩ = some (.int .i64 who))
    (ha : RI w A0 n0 c0 o) (hb : RII w A1 n1 c1 n) (hm : RB w D m d ms) (hf : fineAr o n) (hv : v < n0) (hml : m = n0) :
    Calls Try.prog 66 #[.int .i64 (v : Int), .slice D m d, .pointer (some ⟨ba, 0, none⟩), .pointer (some ⟨bw, 0, none⟩)] w fun e w' => e = .returned (.bool (intoB o n who ms v)) ∧ Below B w w' := by
  have q0 := hba.d0; have q1 := hba.d1
  have HML := Lib.hid hml
  clear hml
  go_enter Try.func66, Try.ntmps66
  go_wp2_with fail
  refine (moves _ _ _ _ _ _ _ _ _ _ _ _ _ _ _ _ (Nat.le_refl _) ha hb hm hf hv HML.out).mono ?_; rintro e w1 ⟨rfl, hb1⟩
  go_wp2
  go_ret
  exact ⟨rfl, hb1.mono hB⟩
theorem stayFn_enter (args : Array Value) (w : World) : (callFunc 66 args).run Try.prog w = .ok (.enter 66 args) w := by kernel_rfl

set_option maxRecDepth 100000 in
set_option maxHeartbeats 1600000 in
theorem stayIn (A0 A1 C : Option Addr) (n0 c0 n1 c1 k d : Nat) (o : List Int) (n : List (List Int)) (who : Int) (s : List Int) (w : World) (B : Nat) (hB : B ≤ w.heap.size) (ha : RI w A0 n0 c0 o) (hb : RII w A1 n1 c1 n) (hs : RI w C k d s) (hf : fineAr o n) (hst : setB s o.length = true) :
    Calls Try.prog 46 #[.agg #[.slice A0 n0 c0, .slice A1 n1 c1], .int .i64 who, .slice C k d] w fun e w' => ∃ v, e = .returned v ∧ OI 2 w' B v (listM (stayM o n who s)) ∧ Below B w w' := by
  have hmf : ∀ (fn : Fn) (first cap : Array Value) (w : World), (Instr.makeFunc fn first cap).run Try.prog w = .ok (.func fn first cap) w := fun _ _ _ _ => rfl
  have HL := Lib.hid ha.len
  have hm0 : 0 < n0 := by have := hf.1; rw [HL.out] at this; omega
  have hm1 : n0 ≤ 1048576 := by have := hf.2.1; rw [HL.out] at this; omega
  have hset : setB s (n0 : Int) = true := by rw [← HL.out]; exact hst
  have HS := Lib.hid (show stayM o n who s = gfp (intoB o n who) (mkM n0 s).length (mkM n0 s) by unfold stayM; rw [HL.out, mkM_len])
  have HF := Lib.hid hf
  have hba : Below w.heap.size w ((w.alloc (.cells #[.slice A0 n0 c0, .slice A1 n1 c1] 30)).alloc (.cells #[.int .i64 who] 2)) := below_alloc (Nat.le_refl _) (below_alloc (Nat.le_refl _) (Below.refl _ _))
  have bx := (Box.new w 30 #[.slice A0 n0 c0, .slice A1 n1 c1]).alloc (.cells #[.int .i64 who] 2)
  have by' : Box ((w.alloc (.cells #[.slice A0 n0 c0, .slice A1 n1 c1] 30)).alloc (.cells #[.int .i64 who] 2)) (w.heap.size + 1) 2 #[.int .i64 who] := Box.new' (by simp)
  have q0 := bx.d0; have q1 := bx.d1
  have hm : (mkM n0 s).length = n0 := mkM_len _ _
  have HM := Lib.hid hm
  clear hf hst hm
  go_enter Try.func46, Try.ntmps46
  go_wp2_with fail
  generalize hW : ((w.alloc (.cells #[.slice A0 n0 c0, .slice A1 n1 c1] 30)).alloc (.cells #[.int .i64 who] 2)) = W at *
  have hWs := hba.size
  clear hW
  go_region_held3 (fun w' => w'.cell? ⟨w.heap.size, 0, none⟩ = some (.slice A0 n0 c0) ∧ w'.cell? ⟨w.heap.size, 1, none⟩ = some (.slice A1 n1 c1))
    (refine ⟨?_, ?_⟩ <;> repeat (first | with_reducible assumption | with_reducible refine keepD ?_ | with_reducible refine keepA ?_))
    (first
      | (go_at_call 31
         refine (markOf _ _ _ _ _ _ _ _ _ s _ _ (Nat.le_refl _) (by exact (hs.keep (keeps_below (Below.drew hba)))) hset hm1).mono ?_
         rintro e w1 ⟨v1, rfl, ho1, hb1⟩
         obtain ⟨A2, c2, rfl⟩ := ho1.form
         have hw1 := below_then hb1 hWs (Below.drew hba)
         have bx1 := bx.drew.below hb1 bx.lt
         have by1 := by'.drew.below hb1 by'.lt
         have q10 := bx1.d0
         have q11 := bx1.d1)
      | (go_at_call 49
         refine (greatestSet (intoB o n who) 66 #[.pointer (some ⟨w.heap.size, 0, none⟩), .pointer (some ⟨w.heap.size + 1, 0, none⟩)] _ _ _ _ _ _ _ _ _ (mkM n0 s) _ _ (Nat.le_refl _) (by exact ho1.reads) (by rw [HM.out]; exact hm0) (by rw [HM.out]; exact hm1) stayFn_enter (fun w' A c r v hbw hr hv => stayFn A0 A1 A n0 c0 n1 c1 _ c o n who v r w.heap.size (w.heap.size + 1) w' _ (Nat.le_refl _) (bx1.below hbw bx1.lt) ((by1.below hbw by1.lt).cell 0) ((ha.keep (keeps_below hw1)).keep (keeps_below hbw)) ((hb.keep (keeps_below hw1)).keep (keeps_below hbw)) hr HF.out (by rw [← HM.out]; exact hv) HM.out)).mono ?_
         rintro e w2 ⟨v2, rfl, ho2, hl2, hb2⟩
         rw [← HS.out] at ho2 hl2
         generalize hG : stayM o n who s = G at ho2 hl2
         have HG := Lib.hid hG
         clear hG
         obtain ⟨A3, c3, rfl⟩ := ho2.form
         have hl3 : G.length ≤ 1048576 := by rw [hl2, HM.out]; exact hm1
         clear hl2
         have hw2 := below_then hb2 hw1.size hw1
         have bx2 := bx1.below hb2 bx1.lt
         have q20 := bx2.d0
         have q21 := bx2.d1)
      | (go_at_call 65
         refine (listOf _ _ _ _ _ _ (Nat.le_refl _) ho2.reads hl3).mono ?_
         rintro e w3 ⟨v3, rfl, ho3, hb3⟩
         have hw3 := below_then hb3 hw2.size hw2
         have bx3 := bx2.below hb3 bx2.lt
         have q30 := bx3.d0
         have q31 := bx3.d1))
  all_goals
    go_wp2
    go_ret
    exact ⟨_, rfl, by rw [HG.out]; exact ho3.more (by have := hw2.size; omega), hw3.mono hB⟩
end Go.Proofs.Ytblmcmccdeelgaa
namespace Go.Proofs.Ytblmcmccdeelgaa
open Go.RowKit

theorem Chg.push {S T : Nat → Prop} {a b c : World} (h : Chg S a b) (k : Chg T b c) (hT : ∀ x, T x → S x ∨ a.heap.size ≤ x) : Chg S a c :=
  ⟨k.os.trans h.os, k.tape.trans h.tape, k.output.trans h.output, Nat.le_trans h.size k.size, fun x hx hu =>
    (k.block x (Nat.lt_of_lt_of_le hx h.size) (fun ht => (hT x ht).elim hu (by omega))).trans (h.block x hx hu)⟩
theorem Chg.drewN {S : Nat → Prop} {a b : World} (h : Chg S a b) (q : Nat) : Chg S a (b.drewN q) := ⟨h.os, h.tape, h.output, h.size, h.block⟩
theorem Chg.then_below {S : Nat → Prop} {a b c : World} {B : Nat} (h : Chg S a b) (k : Below B b c) (hB : a.heap.size ≤ B) : Chg S a c :=
  ⟨k.os.trans h.os, k.tape.trans h.tape, k.output.trans h.output, Nat.le_trans h.size k.size, fun x hx hu => (k.block x (by omega)).trans (h.block x hx hu)⟩
theorem RI.one1 {w : World} {b : Nat} {x : Int} (h : w.cell? ⟨b, 0, none⟩ = some (.int .i64 x)) : RI w (some ⟨b, 0, none⟩) 1 1 [x] :=
  ⟨rfl, ⟨by omega, by omega⟩, fun i hi => ⟨b, 0, rfl, by
    obtain rfl : i = 0 := by omega
    simpa [gi] using h⟩⟩
/-- the places whose number is not negative -/
def wonUp (L : List Int) (k : Nat) : List Int := pick (fun i => decide (0 ≤ gi L i)) (fun i => (i : Int)) k
theorem OI.off {E : TypeId} {w : World} {lo g n c : Nat} {xs : List Int} (h : OI E w lo (.slice (some ⟨g, 0, none⟩) n c) xs) {p : Addr} (hp : g ≠ p.block) (u : Value) : OI E (w.setCell p u) lo (.slice (some ⟨g, 0, none⟩) n c) xs :=
  h.chg (Chg.set p u) fun b hb hs => hp (by have hb' : some g = some b := hb; injection hb' with e; exact e.trans hs)
theorem OB.off {E : TypeId} {w : World} {lo g n c : Nat} {xs : List Bool} (h : OB E w lo (.slice (some ⟨g, 0, none⟩) n c) xs) {p : Addr} (hp : g ≠ p.block) (u : Value) : OB E (w.setCell p u) lo (.slice (some ⟨g, 0, none⟩) n c) xs :=
  row_chg h (Chg.set p u) fun b hb hs => hp (by have hb' : some g = some b := hb; injection hb' with e; exact e.trans hs)
theorem OI.form2 {E : TypeId} {w : World} {lo : Nat} {v : Value} {xs : List Int} (h : OI E w lo v xs) (h0 : 0 < xs.length) : ∃ g c, v = .slice (some ⟨g, 0, none⟩) xs.length c := by
  rcases h.2 with ⟨_, hn⟩ | ⟨g, cap, cur, rfl, _⟩
  · omega
  · exact ⟨_, _, rfl⟩
/-- how many are negative -/
def negs (L : List Int) : Nat := L.countP fun x => decide (x < 0)
theorem negs_le (L : List Int) : negs L ≤ L.length := List.countP_le_length
theorem negs_set {L : List Int} {k : Nat} {x : Int} (hk : k < L.length) (h : gi L k < 0) (hx : 0 ≤ x) : negs (L.set k x) < negs L := by
  rw [gi_get hk] at h
  unfold negs
  rw [List.countP_set hk]
  have : 0 < L.countP fun x => decide (x < 0) := List.countP_pos_iff.2 ⟨_, List.getElem_mem hk, by simpa using h⟩
  have h2 : ¬ x < 0 := by omega
  simp [h, h2]
  omega
end Go.Proofs.Ytblmcmccdeelgaa
namespace Go.Proofs.Ytblmcmccdeelgaa
open Go.RowKit

/-! ### is a vertex pulled to ranked ones -/
def pSome (ns : List Int) (ins : List Bool) (rk : List Int) : Nat → Bool
  | 0 => false
  | k + 1 => pSome ns ins rk k || (gb ins (gi ns k).toNat && decide (0 ≤ gi rk (gi ns k).toNat))
def pAll (ns : List Int) (ins : List Bool) (rk : List Int) : Nat → Bool
  | 0 => true
  | k + 1 => pAll ns ins rk k && (!gb ins (gi ns k).toNat || decide (0 ≤ gi rk (gi ns k).toNat))
def pIn (ns : List Int) (ins : List Bool) : Nat → Bool
  | 0 => false
  | k + 1 => pIn ns ins k || gb ins (gi ns k).toNat
def pulledB (o : List Int) (n : List (List Int)) (who : Int) (ins : List Bool) (rk : List Int) (v : Nat) : Bool :=
  if gi o v = who then pSome (gl n v) ins rk (gl n v).length else pIn (gl n v) ins (gl n v).length && pAll (gl n v) ins rk (gl n v).length
theorem pSome_out {ns : List Int} {ins : List Bool} {rk : List Int} {k j : Nat} (h : gi ns k = (j : Int)) (hg : gb ins j = false) : pSome ns ins rk (k + 1) = pSome ns ins rk k := by rw [pSome, h, Int.toNat_natCast, hg]; simp
theorem pAll_out {ns : List Int} {ins : List Bool} {rk : List Int} {k j : Nat} (h : gi ns k = (j : Int)) (hg : gb ins j = false) : pAll ns ins rk (k + 1) = pAll ns ins rk k := by rw [pAll, h, Int.toNat_natCast, hg]; simp
theorem pIn_at {ns : List Int} {ins : List Bool} {k j : Nat} (h : gi ns k = (j : Int)) : pIn ns ins (k + 1) = (pIn ns ins k || gb ins j) := by rw [pIn, h, Int.toNat_natCast]
theorem pSome_at {ns : List Int} {ins : List Bool} {rk : List Int} {k j : Nat} (h : gi ns k = (j : Int)) (hg : gb ins j = true) : pSome ns ins rk (k + 1) = (pSome ns ins rk k || decide (0 ≤ gi rk j)) := by rw [pSome, h, Int.toNat_natCast, hg]; simp
theorem pAll_at {ns : List Int} {ins : List Bool} {rk : List Int} {k j : Nat} (h : gi ns k = (j : Int)) (hg : gb ins j = true) : pAll ns ins rk (k + 1) = (pAll ns ins rk k && decide (0 ≤ gi rk j)) := by rw [pAll, h, Int.toNat_natCast, hg]; simp
theorem pSome_iff {ns : List Int} {ins : List Bool} {rk : List Int} : ∀ {k : Nat}, pSome ns ins rk k = true ↔ ∃ i, i < k ∧ gb ins (gi ns i).toNat = true ∧ 0 ≤ gi rk (gi ns i).toNat
  | 0 => by simp [pSome]
  | k + 1 => by
    rw [pSome, Bool.or_eq_true, pSome_iff, Bool.and_eq_true, decide_eq_true_iff]
    constructor
    · rintro (⟨i, hi, h⟩ | h)
      · exact ⟨i, by omega, h⟩
      · exact ⟨k, by omega, h⟩
    · rintro ⟨i, hi, h⟩
      by_cases e : i = k
      · subst e; exact .inr h
      · exact .inl ⟨i, by omega, h⟩
theorem pAll_iff {ns : List Int} {ins : List Bool} {rk : List Int} : ∀ {k : Nat}, pAll ns ins rk k = true ↔ ∀ i, i < k → gb ins (gi ns i).toNat = true → 0 ≤ gi rk (gi ns i).toNat
  | 0 => by simp [pAll]
  | k + 1 => by
    rw [pAll, Bool.and_eq_true, pAll_iff, Bool.or_eq_true, decide_eq_true_iff]
    constructor
    · rintro ⟨h1, h2⟩ i hi hg
      by_cases e : i = k
      · subst e
        rcases h2 with h2 | h2
        · rw [hg] at h2; cases h2
        · exact h2
      · exact h1 i (by omega) hg
    · intro h
      refine ⟨fun i hi => h i (by omega), ?_⟩
      cases hg : gb ins (gi ns k).toNat with
      | false => exact .inl rfl
      | true => exact .inr (h k (by omega) hg)
theorem pIn_iff {ns : List Int} {ins : List Bool} : ∀ {k : Nat}, pIn ns ins k = true ↔ ∃ i, i < k ∧ gb ins (gi ns i).toNat = true
  | 0 => by simp [pIn]
  | k + 1 => by
    rw [pIn, Bool.or_eq_true, pIn_iff]
    constructor
    · rintro (⟨i, hi, h⟩ | h)
      · exact ⟨i, by omega, h⟩
      · exact ⟨k, by omega, h⟩
    · rintro ⟨i, hi, h⟩
      by_cases e : i = k
      · subst e; exact .inr h
      · exact .inl ⟨i, by omega, h⟩

/-! ### a list into which the elements of a set are written -/
def hasFill (f g : Nat → Int) (xs : List Int) (j n : Nat) : List Int := fill (fun v => if hasL (xs.take j) (v : Int) = true then f v else g v) n
theorem hasFill_len (f g : Nat → Int) (xs : List Int) (j n : Nat) : (hasFill f g xs j n).length = n := fill_len _ _
theorem hasFill_zero (f g : Nat → Int) (xs : List Int) (n : Nat) : hasFill f g xs 0 n = fill g n := by
  unfold hasFill
  exact congrArg (fun h => fill h n) (funext fun v => by rw [List.take_zero, if_neg (by simp [hasL])])
theorem hasFill_step {f g : Nat → Int} {xs : List Int} {j n u : Nat} (hj : j < xs.length) (hu : gi xs j = (u : Int)) (hn : u < n) : (hasFill f g xs j n).set u (f u) = hasFill f g xs (j + 1) n := by
  refine gi_ext (by simp [hasFill_len]) fun v hv => ?_
  rw [List.length_set, hasFill_len] at hv
  rw [gi_set (by rw [hasFill_len]; exact hn)]
  unfold hasFill
  rw [fill_at hv, fill_at hv, take_gi hj, hu]
  by_cases e : u = v
  · subst e
    rw [if_pos rfl, if_pos (by simp [hasL])]
  · rw [if_neg e]
    have : hasL (xs.take j ++ [(u : Int)]) (v : Int) = hasL (xs.take j) (v : Int) := by
      unfold hasL
      refine decide_eq_decide.2 ?_
      simp only [List.mem_append, List.mem_singleton]
      constructor
      · rintro (h | h)
        · exact h
        · omega
      · exact .inl
    rw [this]
theorem hasFill_skip {f g : Nat → Int} {xs : List Int} {j n u : Nat} (hj : j < xs.length) (hu : gi xs j = (u : Int)) (hs : f u = g u) : hasFill f g xs (j + 1) n = hasFill f g xs j n := by
  unfold hasFill
  congr 1
  funext v
  rw [take_gi hj, hu]
  by_cases e : u = v
  · subst e
    rw [if_pos (by simp [hasL])]
    split
    · rfl
    · exact hs
  · have : hasL (xs.take j ++ [(u : Int)]) (v : Int) = hasL (xs.take j) (v : Int) := by
      unfold hasL
      refine decide_eq_decide.2 ?_
      simp only [List.mem_append, List.mem_singleton]
      constructor
      · rintro (h | h)
        · exact h
        · omega
      · exact .inl
    rw [this]
theorem hasFill_all {f g : Nat → Int} {xs : List Int} {n m : Nat} (h : xs.length ≤ m) : hasFill f g xs m n = fill (fun v => if hasL xs (v : Int) = true then f v else g v) n := by
  unfold hasFill
  rw [List.take_of_length_le h]

/-! ### the rounds -/
def goalF (_goal : List Int) (ins : List Bool) (v : Nat) : Int := if gb ins v = true then 0 else -1
def rnk0 (ins : List Bool) (goal : List Int) (m : Nat) : List Int := fill (fun v => if hasL goal (v : Int) = true then (if gb ins v = true then 0 else -1) else -1) m
def rnkC (o : List Int) (n : List (List Int)) (who : Int) (ins : List Bool) (R : List Int) (v : Nat) : Bool := decide (gi R v < 0) && pulledB o n who ins R v
def rnkS (o : List Int) (n : List (List Int)) (who : Int) (inn : List Int) (ins : List Bool) (R : List Int) (k : Nat) (m : Nat) : List Int := fill (fun v => if hasL inn (v : Int) = true then (if rnkC o n who ins R v = true then (k : Int) else gi R v) else gi R v) m
def rnks (o : List Int) (n : List (List Int)) (who : Int) (inn goal : List Int) (m : Nat) : Nat → List Int
  | 0 => rnk0 (mkM m inn) goal m
  | k + 1 => rnkS o n who inn (mkM m inn) (rnks o n who inn goal m k) (k + 1) m
theorem rnks_len (o : List Int) (n : List (List Int)) (who : Int) (inn goal : List Int) (m k : Nat) : (rnks o n who inn goal m k).length = m := by
  cases k <;> exact fill_len _ _
/-- no vertex comes in with the next round -/
def rnkEnd (o : List Int) (n : List (List Int)) (who : Int) (inn : List Int) (R : List Int) (m : Nat) : Prop := ∀ v, v < m → hasL inn (v : Int) = true → rnkC o n who (mkM m inn) R v = false
theorem rnkS_end {o : List Int} {n : List (List Int)} {who : Int} {inn : List Int} {R : List Int} {m : Nat} (hl : R.length = m) (h : rnkEnd o n who inn R m) (k : Nat) : rnkS o n who inn (mkM m inn) R k m = R := by
  refine gi_ext (by unfold rnkS; rw [fill_len, hl]) fun v hv => ?_
  unfold rnkS at hv ⊢
  rw [fill_len] at hv
  rw [fill_at hv]
  split
  · rename_i hi
    rw [h v hv hi]; rfl
  · rfl
def isRnk (o : List Int) (n : List (List Int)) (who : Int) (inn goal : List Int) (m : Nat) (R : List Int) : Prop := ∃ k, R = rnks o n who inn goal m k ∧ rnkEnd o n who inn R m
theorem rnks_fix {o : List Int} {n : List (List Int)} {who : Int} {inn goal : List Int} {m k : Nat} (h : rnkEnd o n who inn (rnks o n who inn goal m k) m) : ∀ d, rnks o n who inn goal m (k + d) = rnks o n who inn goal m k
  | 0 => rfl
  | d + 1 => by rw [← Nat.add_assoc, rnks, rnks_fix h d, rnkS_end (rnks_len _ _ _ _ _ _ _) h]
theorem isRnk.eq {o : List Int} {n : List (List Int)} {who : Int} {inn goal : List Int} {m : Nat} {r r' : List Int} (h : isRnk o n who inn goal m r) (h' : isRnk o n who inn goal m r') : r = r' := by
  obtain ⟨t, rfl, hf⟩ := h
  obtain ⟨t', rfl, hf'⟩ := h'
  rcases Nat.le_total t t' with hl | hl
  · have := rnks_fix hf (t' - t)
    rw [show t + (t' - t) = t' from by omega] at this
    exact this.symm
  · have := rnks_fix hf' (t - t')
    rw [show t' + (t - t') = t from by omega] at this
    exact this
noncomputable def rankE (o : List Int) (n : List (List Int)) (who : Int) (inn goal : List Int) (m : Nat) : List Int := @Classical.epsilon _ ⟨[]⟩ (isRnk o n who inn goal m)
theorem isRnk.is {o : List Int} {n : List (List Int)} {who : Int} {inn goal : List Int} {m : Nat} {r : List Int} (h : isRnk o n who inn goal m r) : r = rankE o n who inn goal m := h.eq (@Classical.epsilon_spec _ (isRnk o n who inn goal m) ⟨r, h⟩)
theorem isRnk.len {o : List Int} {n : List (List Int)} {who : Int} {inn goal : List Int} {m : Nat} {r : List Int} (h : isRnk o n who inn goal m r) : r.length = m := by
  obtain ⟨t, rfl, _⟩ := h
  exact rnks_len _ _ _ _ _ _ _

/-! ### how many have no rank -/
theorem negs_fill (f : Nat → Int) (n : Nat) : negs (fill f n) = (List.range n).countP fun v => decide (f v < 0) := by
  unfold negs fill
  rw [List.countP_map]; rfl
theorem list_fill {L : List Int} {n : Nat} (h : L.length = n) : L = fill (gi L) n := gi_ext (by rw [fill_len, h]) fun j hj => by rw [fill_at (by omega)]
theorem countP_lt {p q : Nat → Bool} {l : List Nat} (h : ∀ x, x ∈ l → q x = true → p x = true) {y : Nat} (hy : y ∈ l) (hp : p y = true) (hq : q y = false) : l.countP q < l.countP p := by
  induction l with
  | nil => cases hy
  | cons a l ih =>
    rw [List.countP_cons, List.countP_cons]
    have hle : l.countP q ≤ l.countP p := List.countP_mono_left fun x hx => h x (by simp [hx])
    rcases List.mem_cons.1 hy with rfl | hy'
    · rw [hp, hq]; simp; omega
    · have := ih (fun x hx => h x (by simp [hx])) hy'
      have h1 : (if q a = true then 1 else 0) ≤ (if p a = true then 1 else 0) := by
        have := h a (by simp)
        cases hqa : q a with
        | false => simp
        | true => rw [this hqa]; simp
      omega
theorem rnkS_negs {o : List Int} {n : List (List Int)} {who : Int} {inn : List Int} {R : List Int} {m k : Nat} (hl : R.length = m) {v : Nat} (hv : v < m) (hi : hasL inn (v : Int) = true) (hc : rnkC o n who (mkM m inn) R v = true) : negs (rnkS o n who inn (mkM m inn) R k m) < negs R := by
  unfold rnkS
  rw [negs_fill]
  conv => rhs; rw [list_fill hl, negs_fill]
  have hneg : ∀ x, rnkC o n who (mkM m inn) R x = true → gi R x < 0 := fun x h => by
    unfold rnkC at h
    rw [Bool.and_eq_true, decide_eq_true_iff] at h
    exact h.1
  refine countP_lt (fun x _ hx => ?_) (List.mem_range.2 hv) (decide_eq_true (hneg v hc)) ?_
  · rw [decide_eq_true_iff] at hx ⊢
    by_cases h1 : hasL inn (x : Int) = true
    · rw [if_pos h1] at hx
      by_cases h2 : rnkC o n who (mkM m inn) R x = true
      · exact hneg x h2
      · rw [if_neg h2] at hx; exact hx
    · rw [if_neg h1] at hx; exact hx
  · rw [if_pos hi, if_pos hc]
    exact decide_eq_false (by omega)
theorem rnkE_ex (o : List Int) (n : List (List Int)) (who : Int) (inn goal : List Int) (m : Nat) : ∃ r, isRnk o n who inn goal m r := by
  have key : ∀ c t, negs (rnks o n who inn goal m t) ≤ c → ∃ r, isRnk o n who inn goal m r := by
    intro c
    induction c with
    | zero =>
      intro t ht
      refine ⟨_, t, rfl, fun v hv hi => ?_⟩
      cases hc : rnkC o n who (mkM m inn) (rnks o n who inn goal m t) v with
      | false => rfl
      | true =>
        have := rnkS_negs (k := 0) (rnks_len o n who inn goal m t) hv hi hc
        omega
    | succ c ih =>
      intro t ht
      by_cases e : rnkEnd o n who inn (rnks o n who inn goal m t) m
      · exact ⟨_, t, rfl, e⟩
      · have hx : ∃ v, v < m ∧ hasL inn (v : Int) = true ∧ rnkC o n who (mkM m inn) (rnks o n who inn goal m t) v = true := by
          refine Classical.byContradiction fun hne => e fun v hv hi => ?_
          cases hc : rnkC o n who (mkM m inn) (rnks o n who inn goal m t) v with
          | false => rfl
          | true => exact absurd ⟨v, hv, hi, hc⟩ hne
        obtain ⟨v, hv, hi, hc⟩ := hx
        refine ih (t + 1) ?_
        have := rnkS_negs (k := t + 1) (rnks_len o n who inn goal m t) hv hi hc
        rw [rnks]
        omega
  exact key _ 0 (Nat.le_refl _)
noncomputable def ranksL (o : List Int) (n : List (List Int)) (who : Int) (inn goal : List Int) : List Int := rankE o n who inn goal o.length
theorem ranksL_is (o : List Int) (n : List (List Int)) (who : Int) (inn goal : List Int) : isRnk o n who inn goal o.length (ranksL o n who inn goal) := by
  obtain ⟨r, h⟩ := rnkE_ex o n who inn goal o.length
  unfold ranksL
  rw [← h.is]
  exact h
theorem ranksL_len (o : List Int) (n : List (List Int)) (who : Int) (inn goal : List Int) : (ranksL o n who inn goal).length = o.length := (ranksL_is o n who inn goal).len

/-! ### ranks and rounds -/
theorem rnks_top {o : List Int} {n : List (List Int)} {who : Int} {inn goal : List Int} {m : Nat} : ∀ (k v : Nat), v < m → gi (rnks o n who inn goal m k) v ≤ (k : Int) ∧ -1 ≤ gi (rnks o n who inn goal m k) v
  | 0, v, hv => by
    rw [rnks]; unfold rnk0
    rw [fill_at hv]
    split
    · split <;> omega
    · omega
  | k + 1, v, hv => by
    have ih := rnks_top (o := o) (n := n) (who := who) (inn := inn) (goal := goal) k v hv
    rw [rnks]; unfold rnkS
    rw [fill_at hv]
    split
    · split <;> omega
    · omega
/-- what has a rank below the last round had it before the round -/
theorem rnks_old {o : List Int} {n : List (List Int)} {who : Int} {inn goal : List Int} {m k v : Nat} (hv : v < m) (h : gi (rnks o n who inn goal m (k + 1)) v ≤ (k : Int)) : gi (rnks o n who inn goal m k) v = gi (rnks o n who inn goal m (k + 1)) v := by
  rw [rnks] at h ⊢
  unfold rnkS at h ⊢
  rw [fill_at hv] at h ⊢
  split at h
  · split at h
    · omega
    · rename_i h1 h2
      rw [if_pos h1, if_neg h2]
  · rename_i h1
    rw [if_neg h1]
/-- what is still without a rank was not pulled in the round before -/
theorem rnks_unpulled {o : List Int} {n : List (List Int)} {who : Int} {inn goal : List Int} {m k v : Nat} (hv : v < m) (hi : hasL inn (v : Int) = true) (h : gi (rnks o n who inn goal m (k + 1)) v < 0) : pulledB o n who (mkM m inn) (rnks o n who inn goal m k) v = false := by
  rw [rnks] at h
  unfold rnkS at h
  rw [fill_at hv, if_pos hi] at h
  split at h
  · omega
  · rename_i h1
    unfold rnkC at h1
    rw [Bool.and_eq_true, decide_eq_true_iff] at h1
    cases hc : pulledB o n who (mkM m inn) (rnks o n who inn goal m k) v with
    | false => rfl
    | true => exact absurd ⟨h, hc⟩ h1
end Go.Proofs.Ytblmcmccdeelgaa
namespace Go.Proofs.Ytblmcmccdeelgaa
open Go.RowKit

set_option maxRecDepth 100000 in
set_option maxHeartbeats 400000 in
theorem l1Marks (n0 : Nat) (C : Option Addr) (m d : Nat) (s : List Int) (w : World) (B : Nat) (hB : B ≤ w.heap.size) (hb : RI w C m d s) (hs : setB s (n0 : Int) = true) (hn : n0 ≤ 1048576) :
    Calls Try.prog 55 #[.slice C m d, .int .i64 (n0 : Int)] w fun e w' => ∃ v, e = .returned v ∧ OB 4 w' B v (mkM n0 s) ∧ Below B w w' := by
  have hba := Below.refl w.heap.size w
  have hsz : w.heap.size = w.heap.size := rfl
  have b3 := hb.cap; have b4 := hb.top
  have HM := Lib.hid hb.len; have HS := Lib.hid hs; have HZ := Lib.hid hsz; clear hs hsz
  go_enter Try.func55, Try.ntmps55
  go_wp2_with (refine wpList_makeB rfl (.tmp 7) rfl _ n0 rfl hn ?_; intro w1 hown hb1; rw [HZ.out] at hown ⊢; replace hb1 := below_then hb1 hba.size hba; replace hown := hown.more (lo' := w.heap.size) (by omega); clear hba)
  go_loopw [6] (fun i wr => ∃ k : Nat, k ≤ m ∧ i = .int .i64 k ∧ OB 4 wr w.heap.size (.slice (some ⟨w.heap.size, 0, none⟩) n0 n0) (mkM n0 (s.take k)) ∧ Below w.heap.size w wr) (fun i _ => m - (intOf i).toNat)
  case atStart => exact ⟨0, Nat.zero_le _, rfl, by rw [List.take_zero, mkM_zero]; exact hown, hb1⟩
  case round =>
    obtain ⟨k, hk, rfl, ho, hbr⟩ := hrel
    by_cases hlt : k < m
    · obtain ⟨j, hj, hjn⟩ := set_nat HS.out (show k < s.length by rw [HM.out]; exact hlt)
      obtain ⟨bb, off, rfl, hc⟩ := (hb.keep (keeps_below hbr)).at_ hlt
      rw [hj] at hc
      have hcm := ho.at_ (i := j) (by rw [mkM_len]; exact hjn)
      have hfz := ho.hot (i := j) (by rw [mkM_len])
      have HX := Lib.hid (mkM_put (n := n0) (show k < s.length by rw [HM.out]; exact hlt) hj hjn)
      have HO := Lib.hid ho
      clear hj ho
      go_wp2
      go_roundw
      case rel => exact ⟨k + 1, by omega, by go_num, by rw [← HX.out]; exact HO.out.set_ (by rw [mkM_len]) true, below_set (by show w.heap.size ≤ w.heap.size; omega) hbr⟩
      case measure => simp [intOf]; omega
    · obtain rfl : k = m := by omega
      have HE := Lib.hid (show s.take k = s from List.take_of_length_le (by rw [HM.out]; omega))
      go_wp2
      go_ret
      exact ⟨_, rfl, by rw [← HE.out]; exact ho.more hB, hbr.mono hB⟩


set_option maxHeartbeats 400000 in
theorem l1Same (A B : Option Addr) (n m c d : Nat) (xs ys : List Int) (w : World) (ha : RI w A n c xs) (hb : RI w B m d ys) :
    Calls Try.prog 26 #[.slice A n c, .slice B m d] w fun e w' => e = .returned (.bool (eqL xs ys)) ∧ Qt w w' := by
  have b1 := ha.cap; have b2 := ha.top; have b3 := hb.cap; have b4 := hb.top
  by_cases hnm : n = m
  · subst hnm
    have hnn : ((n : Int) != (n : Int)) = false := by simp
    go_enter Try.func26, Try.ntmps26
    go_wp2
    go_loopw [5] (fun i wr => ∃ k : Nat, k ≤ n ∧ i = .int .i64 k ∧ (∀ j, j < k → gi xs j = gi ys j) ∧ ∃ q, wr = w.drewN q) (fun i _ => n - (intOf i).toNat)
    case atStart => exact ⟨0, Nat.zero_le _, rfl, by omega, 0, rfl⟩
    case round =>
      obtain ⟨k, hk, rfl, hall, q, rfl⟩ := hrel
      by_cases hlt : k < n
      · obtain ⟨b, off, rfl, hc1⟩ := ha.at_ hlt
        obtain ⟨b', off', rfl, hc2⟩ := hb.at_ hlt
        have hki : (k : Int) < (n : Int) := by omega
        have hk0 : (0 : Int) ≤ (k : Int) := by omega
        by_cases he : gi xs k = gi ys k
        · have H := Lib.hid he
          have hne : (gi xs k != gi ys k) = false := by simp [he]
          clear he
          go_wp2
          go_quiet (fail)
          go_wp2
          go_roundw
          case rel => exact ⟨k + 1, by omega, by go_num, all_succ hall H.out, _, rfl⟩
          case measure => simp [intOf]; omega
        · have H := Lib.hid he
          have hne : (gi xs k != gi ys k) = true := by simp [he]
          clear he
          go_wp2
          go_quiet (fail)
          go_wp2
          go_ret
          exact ⟨ret_b (eqL_ne H.out).symm, Qt.drew2 _ _⟩
      · go_wp2
        go_ret
        obtain rfl : k = n := by omega
        exact ⟨ret_b (eqL_of ha.1 hb.1 hall).symm, _, rfl⟩
  · have hnn : ((n : Int) != (m : Int)) = true := by simp; omega
    have H := Lib.hid hnm
    clear hnm
    go_enter Try.func26, Try.ntmps26
    go_wp2
    go_ret
    exact ⟨ret_b (eqL_len (by rw [ha.1, hb.1]; exact H.out)).symm, Qt.refl _⟩



theorem l1Max (x y : Int) (w : World) :
    Calls Try.prog 84 #[.int .i64 x, .int .i64 y] w fun e w' => e = .returned (.int .i64 (if y < x then x else y)) ∧ Qt w w' := by
  by_cases h : y < x
  · go_enter Try.func84, Try.ntmps84
    go_wp2
    go_ret
    exact ⟨rfl, Qt.refl _⟩
  · go_enter Try.func84, Try.ntmps84
    go_wp2
    go_ret
    exact ⟨rfl, Qt.refl _⟩

set_option maxRecDepth 100000 in
set_option maxHeartbeats 800000 in
theorem isPulled (A0 A1 D R : Option Addr) (n0 c0 n1 c1 d dr : Nat) (o : List Int) (n : List (List Int)) (who : Int) (v : Nat) (ms : List Bool) (rk : List Int) (w : World) (B : Nat) (hB : B ≤ w.heap.size) (ha : RI w A0 n0 c0 o) (hb : RII w A1 n1 c1 n) (hm : RB w D n0 d ms) (hr : RI w R n0 dr rk) (hf : fineAr o n) (hv : v < n0) :
    Calls Try.prog 56 #[.agg #[.slice A0 n0 c0, .slice A1 n1 c1], .int .i64 who, .slice D n0 d, .slice R n0 dr, .int .i64 (v : Int)] w fun e w' => e = .returned (.bool (pulledB o n who ms rk v)) ∧ Below B w w' := by
  have b1 := ha.cap; have b2 := ha.top; have b3 := hb.cap; have b4 := hb.top; have b5 := hm.cap; have b6 := hm.top; have b7 := hr.cap; have b8 := hr.top
  have HL := Lib.hid ha.len; have HM := Lib.hid hb.len
  obtain ⟨hf1, hf2, hf3, hf4⟩ := hf
  obtain ⟨_, ⟨hk1, hk2⟩, hset⟩ := hf4 v (by rw [HL.out]; exact hv)
  rw [HL.out] at hset hf3
  have hv1 : v < n1 := by rw [← HM.out, hf3]; exact hv
  have HSET := Lib.hid hset
  clear hf1 hf2 hf3 hf4 hset
  have hba : Below w.heap.size w (w.alloc (.cells #[.slice A0 n0 c0, .slice A1 n1 c1] 30)) := below_alloc (Nat.le_refl _) (Below.refl _ _)
  have q0 := (Box.new w 30 #[.slice A0 n0 c0, .slice A1 n1 c1]).d0
  have q1 := (Box.new w 30 #[.slice A0 n0 c0, .slice A1 n1 c1]).d1
  replace ha := ha.keep (keeps_below hba); replace hb := hb.keep (keeps_below hba); replace hm := hm.keep (keeps_below hba); replace hr := hr.keep (keeps_below hba)
  obtain ⟨ba, oa, rfl, hcA⟩ := ha.at_ hv
  obtain ⟨bn, on, An, nn, cn, rfl, hcN, rn⟩ := hb.at_ hv1
  have bn1 := rn.cap; have bn2 := rn.top
  have HN := Lib.hid rn.len
  rw [HN.out] at hk1 hk2
  have hvi : (v : Int) < (n0 : Int) := by omega
  have hvi1 : (v : Int) < (n1 : Int) := by omega
  go_enter Try.func56, Try.ntmps56
  go_wp2
  go_loopw [11, 12, 13, 22] (fun x y z i wr => ∃ (k : Nat) (p q r : Bool), k ≤ nn ∧ i = .int .i64 k ∧ x = .bool p ∧ y = .bool q ∧ z = .bool r ∧ p = pSome (gl n v) ms rk k ∧ q = pAll (gl n v) ms rk k ∧ r = pIn (gl n v) ms k ∧ ∃ t, wr = (w.alloc (.cells #[.slice (some ⟨ba, oa, none⟩) n0 c0, .slice (some ⟨bn, on, none⟩) n1 c1] 30)).drewN t) (fun _ _ _ i _ => nn - (intOf i).toNat)
  case atStart => exact ⟨0, false, true, false, Nat.zero_le _, rfl, rfl, rfl, rfl, rfl, rfl, rfl, 0, rfl⟩
  case round =>
    obtain ⟨k, p, q, r, hk, rfl, rfl, rfl, rfl, hp, hq, hr3, t, rfl⟩ := hrel
    have HP := Lib.hid hp; have HQ := Lib.hid hq; have HR := Lib.hid hr3; clear hp hq hr3
    by_cases hlt : k < nn
    · obtain ⟨j, hj, hjn⟩ := set_nat HSET.out (show k < (gl n v).length by rw [HN.out]; exact hlt)
      obtain ⟨bb, off, rfl, hc⟩ := rn.at_ hlt
      obtain ⟨bm, om, rfl, hcM⟩ := hm.at_ hjn
      obtain ⟨bR, oR, rfl, hcR⟩ := hr.at_ hjn
      have HJ := Lib.hid hj
      rw [hj] at hc
      have hjm : (j : Int) < (n0 : Int) := by omega
      have hki : (k : Int) < (nn : Int) := by omega
      have hk0 : (0 : Int) ≤ (k : Int) := by omega
      clear hj
      cases hg : gb ms j with
      | false =>
        rw [hg] at hcM
        have X1 := Lib.hid (pSome_out (rk := rk) HJ.out hg); have X2 := Lib.hid (pAll_out (rk := rk) HJ.out hg); have X3 := Lib.hid (show pIn (gl n v) ms (k + 1) = pIn (gl n v) ms k by rw [pIn_at HJ.out, hg, Bool.or_false])
        clear hg
        go_wp2
        go_roundw
        case rel => exact ⟨k + 1, p, q, r, by omega, by go_num, rfl, rfl, rfl, by rw [X1.out]; exact HP.out, by rw [X2.out]; exact HQ.out, by rw [X3.out]; exact HR.out, _, rfl⟩
        case measure => simp [intOf]; omega
      | true =>
        rw [hg] at hcM
        have X1 := Lib.hid (pSome_at (rk := rk) HJ.out hg); have X2 := Lib.hid (pAll_at (rk := rk) HJ.out hg); have X3 := Lib.hid (show pIn (gl n v) ms (k + 1) = true by rw [pIn_at HJ.out, hg, Bool.or_true])
        clear hg
        cases p <;> cases q <;> cases hd : decide (0 ≤ gi rk j)
        all_goals
          go_wp2
          go_roundw
          case rel => exact ⟨k + 1, _, _, _, by omega, by go_num, rfl, rfl, rfl, by rw [X1.out, ← HP.out, hd]; rfl, by rw [X2.out, ← HQ.out, hd]; rfl, by rw [X3.out], _, rfl⟩
          case measure => simp [intOf]; omega
    · obtain rfl : k = nn := by omega
      by_cases he : gi o v = who
      · have E := Lib.hid (show pulledB o n who ms rk v = p by unfold pulledB; rw [if_pos he, HN.out, HP.out])
        have h1 : (gi o v == who) = true := by simpa using he
        clear he
        go_wp2
        go_ret
        exact ⟨ret_b E.out.symm, below_drewN (hba.mono hB) _⟩
      · have E := Lib.hid (show pulledB o n who ms rk v = (r && q) by unfold pulledB; rw [if_neg he, HN.out, HQ.out, HR.out])
        have h1 : (gi o v == who) = false := by simpa using he
        clear he
        cases r
        · go_wp2
          go_ret
          exact ⟨ret_b E.out.symm, below_drewN (hba.mono hB) _⟩
        · go_wp2
          go_ret
          exact ⟨ret_b E.out.symm, below_drewN (hba.mono hB) _⟩

/-! ### the rank that those there are give -/
end Go.Proofs.Ytblmcmccdeelgaa
namespace Go.Proofs.Ytblmcmccdeelgaa
open Go.RowKit

theorem gi_out {xs : List Int} {i : Nat} (h : xs.length ≤ i) : gi xs i = 0 := by simp [gi, List.getElem?_eq_none h]
theorem rnks_all {o : List Int} {n : List (List Int)} {who : Int} {inn goal : List Int} {m k : Nat} (hk : k ≤ 256) (u : Nat) : gi (rnks o n who inn goal m k) u ≤ 256 := by
  rcases Nat.lt_or_ge u m with h | h
  · have := (rnks_top (o := o) (n := n) (who := who) (inn := inn) (goal := goal) k u h).1
    omega
  · rw [gi_out (by rw [rnks_len]; exact h)]; omega
theorem negs_zero {L : List Int} (h : negs L = 0) {i : Nat} (hi : i < L.length) : 0 ≤ gi L i := by
  rcases Int.lt_or_le (gi L i) 0 with h1 | h1
  · have := negs_set hi h1 (Int.le_refl 0)
    omega
  · exact h1
theorem rnk0_negs (o : List Int) (n : List (List Int)) (who : Int) (inn goal : List Int) (m : Nat) : negs (rnks o n who inn goal m 0) ≤ m := by
  have := negs_le (rnks o n who inn goal m 0)
  rw [rnks_len] at this
  exact this
theorem rnkEnd_full {o : List Int} {n : List (List Int)} {who : Int} {inn : List Int} {R : List Int} {m : Nat} (hl : R.length = m) (h : negs R = 0) : rnkEnd o n who inn R m := fun v hv _ => by
  have := negs_zero h (i := v) (by omega)
  unfold rnkC
  rw [decide_eq_false (by omega)]; rfl
/-- what the loop over 'in' of impl finds -/
def fndUp (o : List Int) (n : List (List Int)) (who : Int) (inn : List Int) (m : Nat) (R : List Int) (k : Nat) : List Int := pick (fun i => rnkC o n who (mkM m inn) R (gi inn i).toNat) (gi inn) k
theorem fnd_has {o : List Int} {n : List (List Int)} {who : Int} {inn : List Int} {m : Nat} {R : List Int} {v : Nat} : hasL (fndUp o n who inn m R inn.length) (v : Int) = (hasL inn (v : Int) && rnkC o n who (mkM m inn) R v) := by
  cases hc : rnkC o n who (mkM m inn) R v with
  | true =>
    rw [Bool.and_true]
    unfold hasL
    refine decide_eq_decide.2 ⟨fun h => ?_, fun h => ?_⟩
    · obtain ⟨i, hi, _, h2⟩ := mem_pick.1 h
      rw [← h2]; exact gi_mem hi
    · obtain ⟨i, hi, h1⟩ := mem_gi h
      exact mem_pick.2 ⟨i, hi, by rw [h1, Int.toNat_natCast]; exact hc, h1⟩
  | false =>
    rw [Bool.and_false]
    unfold hasL
    refine decide_eq_false fun h => ?_
    obtain ⟨i, hi, h1, h2⟩ := mem_pick.1 h
    rw [h2, Int.toNat_natCast, hc] at h1
    cases h1
theorem fnd_all {o : List Int} {n : List (List Int)} {who : Int} {inn : List Int} {m : Nat} {R : List Int} {k : Nat} : fill (fun v => if hasL (fndUp o n who inn m R inn.length) (v : Int) = true then (k : Int) else gi R v) m = rnkS o n who inn (mkM m inn) R k m := by
  unfold rnkS
  refine congrArg (fun f => fill f m) (funext fun v => ?_)
  rw [fnd_has]
  cases h1 : hasL inn (v : Int) <;> cases h2 : rnkC o n who (mkM m inn) R v <;> simp
theorem fnd_end {o : List Int} {n : List (List Int)} {who : Int} {inn : List Int} {m : Nat} {R : List Int} (h : (fndUp o n who inn m R inn.length).length = 0) : rnkEnd o n who inn R m := fun v hv hi => by
  have e : hasL (fndUp o n who inn m R inn.length) (v : Int) = false := by
    rw [List.eq_nil_of_length_eq_zero h]; simp [hasL]
  rw [fnd_has, hi, Bool.true_and] at e
  exact e
theorem fnd_some {o : List Int} {n : List (List Int)} {who : Int} {inn : List Int} {m : Nat} {R : List Int} (hs : setB inn (m : Int) = true) {j : Nat} (hj : j < (fndUp o n who inn m R inn.length).length) : ∃ u : Nat, gi (fndUp o n who inn m R inn.length) j = (u : Int) ∧ u < m ∧ hasL inn (u : Int) = true ∧ rnkC o n who (mkM m inn) R u = true := by
  obtain ⟨i, hi, h1, h2⟩ := mem_pick.1 (gi_mem hj)
  obtain ⟨u, hu, hum⟩ := set_nat hs hi
  rw [hu, Int.toNat_natCast] at h1
  exact ⟨u, by rw [← hu]; exact h2.symm, hum, decide_eq_true (by rw [← hu]; exact gi_mem hi), h1⟩
set_option maxRecDepth 100000 in
set_option maxHeartbeats 3200000 in
theorem ranksIn (A0 A1 C1 C2 : Option Addr) (n0 c0 n1 c1 k1 d1 k2 d2 : Nat) (o : List Int) (n : List (List Int)) (who : Int) (inn goal : List Int) (w : World) (B : Nat) (hB : B ≤ w.heap.size) (ha : RI w A0 n0 c0 o) (hb : RII w A1 n1 c1 n) (hi : RI w C1 k1 d1 inn) (hg : RI w C2 k2 d2 goal) (hf : fineAr o n) (hsi : setB inn o.length = true) (hsg : setB goal o.length = true) :
    Calls Try.prog 32 #[.agg #[.slice A0 n0 c0, .slice A1 n1 c1], .int .i64 who, .slice C1 k1 d1, .slice C2 k2 d2] w fun e w' => ∃ v, e = .returned v ∧ OI 2 w' B v (ranksL o n who inn goal) ∧ Below B w w' := by
  have HL := Lib.hid ha.len; have HK1 := Lib.hid hi.len; have HK2 := Lib.hid hg.len
  have hm0 : 0 < n0 := by have := hf.1; rw [HL.out] at this; omega
  have hm1 : n0 ≤ 256 := by have := hf.2.1; rw [HL.out] at this; omega
  have HSI := Lib.hid (show setB inn (n0 : Int) = true by rw [← HL.out]; exact hsi)
  have HSG := Lib.hid (show setB goal (n0 : Int) = true by rw [← HL.out]; exact hsg)
  have hkl1 : k1 ≤ 256 := by have := set_len HSI.out (by omega); rw [HK1.out] at this; omega
  have hkl2 : k2 ≤ 256 := by have := set_len HSG.out (by omega); rw [HK2.out] at this; omega
  have bi1 := hi.cap; have bi2 := hi.top; have bg1 := hg.cap; have bg2 := hg.top
  have HS := Lib.hid (show ranksL o n who inn goal = rankE o n who inn goal n0 by unfold ranksL; rw [HL.out])
  have HF := Lib.hid hf
  have hba : Below w.heap.size w (w.alloc (.cells #[.slice A0 n0 c0, .slice A1 n1 c1] 30)) := below_alloc (Nat.le_refl _) (Below.refl _ _)
  have bx := Box.new w 30 #[.slice A0 n0 c0, .slice A1 n1 c1]
  have q0 := bx.d0; have q1 := bx.d1
  clear hf hsi hsg
  go_enter Try.func32, Try.ntmps32
  go_wp2_with fail
  clear q0 q1
  refine (markOf _ _ _ _ _ _ _ _ _ inn _ _ (Nat.le_refl _) (hi.keep (keeps_below hba)) HSI.out (by omega)).mono ?_; rintro e w1 ⟨v1, rfl, hs, hb1⟩
  obtain ⟨gS, cS, rfl⟩ := hs.form2 (by rw [mkM_len]; exact hm0)
  rw [mkM_len] at hs ⊢
  replace bx := bx.below hb1 bx.lt
  have hw := below_then hb1 hba.size hba
  have hz1 : w.heap.size < w1.heap.size := bx.lt
  replace hs := hs.more (lo' := w.heap.size) (by simp)
  have hgS : gS < w1.heap.size := (hs.lt gS rfl).2
  have q0 := bx.d0; have q1 := bx.d1
  go_wp2_with (refine wpList_makeI rfl (.tmp 25) rfl _ n0 rfl (by omega) ?_; intro w2 ho hb2)
  clear q0 q1 hb1
  replace bx := bx.below hb2 bx.lt
  replace hs := hs.below hb2
  replace hw := below_then hb2 hw.size hw
  clear hb2
  generalize w1.heap.size = g8 at *
  go_loopw [29] (fun i wr => ∃ k : Nat, k ≤ n0 ∧ i = .int .i64 k ∧ OI 2 wr g8 (.slice (some ⟨g8, 0, none⟩) n0 n0) (fillUp (fun _ => -1) n0 (fun _ => 0) k) ∧ OB 4 wr w.heap.size (.slice (some ⟨gS, 0, none⟩) n0 cS) (mkM n0 inn) ∧ Box wr w.heap.size 30 #[.slice A0 n0 c0, .slice A1 n1 c1] ∧ Below w.heap.size w wr) (fun i _ => n0 - (intOf i).toNat)
  case atStart => exact ⟨0, Nat.zero_le _, rfl, by rw [fillUp_zero, ← fill_zeros]; exact ho, hs, bx, hw⟩
  case round =>
    clear ho hs bx hw
    obtain ⟨k, hk, rfl, ho, hs, bx, hw⟩ := hrel
    by_cases hlt : k < n0
    · have hcm := ho.cellAt (i := k) (by rw [fillUp_len]; exact hlt)
      have hfz := ho.hot (i := k) (by rw [fillUp_len])
      have HX := Lib.hid (fillUp_put (f := fun _ => -1) (g := fun _ => 0) hlt)
      go_wp2
      go_roundw
      case rel => exact ⟨k + 1, by omega, by go_num, by rw [← HX.out]; exact ho.set_ (by rw [fillUp_len]) (-1), hs.off (by show gS ≠ g8; omega) _, bx.far (by show w.heap.size ≠ g8; omega) _, below_set (by show w.heap.size ≤ g8; omega) hw⟩
      case measure => simp [intOf]; omega
    · obtain rfl : k = n0 := by omega
      rw [fillUp_full, ← hasFill_zero (goalF goal (mkM k inn)) (fun _ => -1) goal] at ho
      go_wp2
      go_loopw [38] (fun i wr => ∃ j : Nat, j ≤ k2 ∧ i = .int .i64 j ∧ OI 2 wr g8 (.slice (some ⟨g8, 0, none⟩) k k) (hasFill (goalF goal (mkM k inn)) (fun _ => -1) goal j k) ∧ OB 4 wr w.heap.size (.slice (some ⟨gS, 0, none⟩) k cS) (mkM k inn) ∧ Box wr w.heap.size 30 #[.slice A0 k c0, .slice A1 n1 c1] ∧ Below w.heap.size w wr) (fun i _ => k2 - (intOf i).toNat)
      case atStart => exact ⟨0, Nat.zero_le _, rfl, ho, hs, bx, hw⟩
      case round =>
        clear ho hs bx hw hlt hk
        obtain ⟨j, hj, rfl, ho, hs, bx, hw⟩ := hrel
        by_cases hjl : j < k2
        · obtain ⟨u, hu, hun⟩ := set_nat HSG.out (show j < goal.length by rw [HK2.out]; exact hjl)
          obtain ⟨bb, off, rfl, hc⟩ := (hg.keep (keeps_below hw)).at_ hjl
          have HU := Lib.hid hu
          rw [hu] at hc
          clear hu
          have hcs := hs.atx (i := u) (by rw [mkM_len]; exact hun)
          have hco := ho.cellAt (i := u) (by rw [hasFill_len]; exact hun)
          have hfo := ho.hot (i := u) (by rw [hasFill_len])
          have hui : (u : Int) < (k : Int) := by omega
          have hu0 : (0 : Int) ≤ (u : Int) := by omega
          cases hgb : gb (mkM k inn) u with
          | false =>
            rw [hgb] at hcs
            have HX := Lib.hid (hasFill_skip (f := goalF goal (mkM k inn)) (g := fun _ => -1) (n := k) (show j < goal.length by rw [HK2.out]; exact hjl) HU.out (by unfold goalF; rw [hgb]; rfl))
            clear hgb
            go_wp2
            go_roundw
            case rel => exact ⟨j + 1, by omega, by go_num, by rw [HX.out]; exact ho, hs, bx, hw⟩
            case measure => simp [intOf]; omega
          | true =>
            rw [hgb] at hcs
            have HX := Lib.hid (hasFill_step (f := goalF goal (mkM k inn)) (g := fun _ => -1) (n := k) (show j < goal.length by rw [HK2.out]; exact hjl) HU.out hun)
            have HV := Lib.hid (show goalF goal (mkM k inn) u = 0 by unfold goalF; rw [hgb]; rfl)
            clear hgb
            go_wp2
            go_roundw
            case rel => exact ⟨j + 1, by omega, by go_num, by rw [← HX.out, HV.out]; exact ho.set_ (by rw [hasFill_len]) 0, hs.off (by show gS ≠ g8; omega) _, bx.far (by show w.heap.size ≠ g8; omega) _, below_set (by show w.heap.size ≤ g8; omega) hw⟩
            case measure => simp [intOf]; omega
        · obtain rfl : j = k2 := by omega
          replace ho : OI 2 wr g8 (.slice (some ⟨g8, 0, none⟩) k k) (rnks o n who inn goal k 0) := by
            rw [hasFill_all (by rw [HK2.out]; omega)] at ho
            exact ho
          go_wp2
          go_loopg [14] (k + 1) (fun gk lv wr => ∃ (t : Nat) (R : List Int), lv = .int .i64 t ∧ R = rnks o n who inn goal k t ∧ t + negs R ≤ k ∧ negs R + 1 ≤ gk ∧ OI 2 wr g8 (.slice (some ⟨g8, 0, none⟩) k k) R ∧ OB 4 wr w.heap.size (.slice (some ⟨gS, 0, none⟩) k cS) (mkM k inn) ∧ Box wr w.heap.size 30 #[.slice A0 k c0, .slice A1 n1 c1] ∧ Below w.heap.size w wr)
          case atStart => exact ⟨0, _, rfl, rfl, by have := rnk0_negs o n who inn goal k; omega, by have := rnk0_negs o n who inn goal k; omega, ho, hs, bx, hw⟩
          case round =>
            clear ho hs bx hw hjl hj
            obtain ⟨t, R, rfl, hRt, hneg, hgk, ho, hs, bx, hw⟩ := hrel
            have hRl : R.length = k := by rw [hRt, rnks_len]
            have ht : t ≤ 256 := by omega
            have HRT := Lib.hid hRt; have HNEG := Lib.hid hneg; have HGK := Lib.hid hgk; have HRL := Lib.hid hRl
            clear hRt hneg hgk hRl
            obtain ⟨wl, rfl⟩ : ∃ wl : World, wl = wr := ⟨_, rfl⟩
            have hem := OI.empty (E := 2) (w := wl) (B := wl.heap.size) (Nat.le_refl _)
            have hbe : Below wl.heap.size wl (wl.alloc (.cells #[] 2)) := below_alloc (Nat.le_refl _) (Below.refl _ _)
            have hg8l : g8 < wl.heap.size := (ho.lt g8 rfl).2
            go_wp2
            go_loopw [15, 55] (fun x i wr => ∃ j : Nat, j ≤ k1 ∧ i = .int .i64 j ∧ OI 2 wr wl.heap.size x (fndUp o n who inn k R j) ∧ Below wl.heap.size wl wr) (fun _ i _ => k1 - (intOf i).toNat)
            case atStart => exact ⟨0, Nat.zero_le _, rfl, hem, hbe⟩
            case round =>
              clear hem hbe
              obtain ⟨j, hj, rfl, hx, hbr⟩ := hrel
              have hlen : (fndUp o n who inn k R j).length ≤ j := pick_len _ _ _
              have hsz := hbr.size
              have hwr := below_then hbr hw.size hw
              by_cases hjl : j < k1
              · obtain ⟨u, hu, hun⟩ := set_nat HSI.out (show j < inn.length by rw [HK1.out]; exact hjl)
                obtain ⟨bb, off, rfl, hc⟩ := (hi.keep (keeps_below hwr)).at_ hjl
                have HU := Lib.hid hu
                rw [hu] at hc
                clear hu
                have ho' := ho.below hbr
                have hs' := hs.below hbr
                have bx' := bx.below hbr bx.lt
                have hco := ho'.cellAt (i := u) (by rw [HRL.out]; exact hun)
                have hui : (u : Int) < (k : Int) := by omega
                have hu0 : (0 : Int) ≤ (u : Int) := by omega
                have q0 := bx'.d0; have q1 := bx'.d1
                by_cases hneg : gi R u < 0
                · have hdn : decide (gi R u < 0) = true := decide_eq_true hneg
                  have hcall := isPulled A0 A1 _ _ k c0 n1 c1 cS k o n who u (mkM k inn) R wr _ (Nat.le_refl _) (ha.keep (keeps_below hwr)) (hb.keep (keeps_below hwr)) hs'.reads ho'.reads HF.out hun
                  cases hpl : pulledB o n who (mkM k inn) R u with
                  | false =>
                    rw [hpl] at hcall
                    have HX := Lib.hid (show fndUp o n who inn k R (j + 1) = fndUp o n who inn k R j from pick_no (by rw [HU.out, Int.toNat_natCast]; unfold rnkC; rw [hpl, Bool.and_false]))
                    clear hpl
                    go_wp2_with fail
                    refine hcall.mono ?_; rintro e w4 ⟨rfl, hb4⟩
                    go_wp2
                    go_roundw
                    case rel => exact ⟨j + 1, by omega, by go_num, by rw [HX.out]; exact hx.below hb4, below_then hb4 hbr.size hbr⟩
                    case measure => simp [intOf]; omega
                  | true =>
                    rw [hpl] at hcall
                    have HX := Lib.hid (show fndUp o n who inn k R (j + 1) = fndUp o n who inn k R j ++ [(u : Int)] by rw [← HU.out]; exact pick_yes (by rw [HU.out, Int.toNat_natCast]; unfold rnkC; rw [hpl, decide_eq_true hneg]; rfl))
                    clear hpl
                    go_wp2_with fail
                    refine hcall.mono ?_; rintro e w4 ⟨rfl, hb4⟩
                    have hsz4 := hb4.size
                    go_wp2_with (at_builtin; refine wpList_pushI rfl (.tmp 72) (.tmp 74) rfl _ _ _ (fndUp o n who inn k R j) rfl (hx.below hb4) _ rfl (by omega) (by omega) ?_; intro v5 w5 ho5 hb5 hc5 hat5)
                    go_roundw
                    case rel => exact ⟨j + 1, by omega, by go_num, by rw [HX.out]; exact ho5, (below_then hb4 hbr.size hbr).trans hb5⟩
                    case measure => simp [intOf]; omega
                · have hdn : decide (gi R u < 0) = false := decide_eq_false hneg
                  have HX := Lib.hid (show fndUp o n who inn k R (j + 1) = fndUp o n who inn k R j from pick_no (by rw [HU.out, Int.toNat_natCast]; unfold rnkC; rw [hdn]; rfl))
                  go_wp2
                  go_roundw
                  case rel => exact ⟨j + 1, by omega, by go_num, by rw [HX.out]; exact hx, hbr⟩
                  case measure => simp [intOf]; omega
              · obtain rfl : j = k1 := by omega
                have HFD := Lib.hid (show fndUp o n who inn k R j = fndUp o n who inn k R inn.length by rw [HK1.out])
                rw [HFD.out] at hx hlen
                replace ho := ho.below hbr
                replace hs := hs.below hbr
                replace bx := bx.below hbr bx.lt
                obtain ⟨Ax, cx, rfl⟩ := hx.form
                generalize hfl : (fndUp o n who inn k R inn.length).length = fl at *
                have HFL := Lib.hid hfl
                clear hfl
                by_cases hz : fl = 0
                · subst hz
                  have HIS := Lib.hid (show isRnk o n who inn goal k R from ⟨t, HRT.out, fnd_end HFL.out⟩)
                  go_wp2
                  go_ret
                  exact ⟨_, rfl, by rw [HS.out, ← HIS.out.is]; exact ho.more (by omega), hwr.mono hB⟩
                · obtain ⟨gF, rfl⟩ : ∃ g, Ax = some ⟨g, 0, none⟩ := by
                    obtain ⟨g, c, e⟩ := hx.form2 (by rw [HFL.out]; omega)
                    injection e with e1 _ _
                    exact ⟨g, e1⟩
                  have hgF : wl.heap.size ≤ gF := (hx.lt gF rfl).1
                  have hzi : ((fl : Int) == 0) = false := by rw [beq_eq_false_iff_ne]; omega
                  have HNEW := Lib.hid (show negs (rnkS o n who inn (mkM k inn) R (t + 1) k) < negs R by
                    obtain ⟨u, _, h2, h3, h4⟩ := fnd_some (o := o) (n := n) (who := who) (R := R) HSI.out (j := 0) (by rw [HFL.out]; omega)
                    exact rnkS_negs HRL.out h2 h3 h4)
                  have HLF := Lib.hid (list_fill HRL.out)
                  rw [HLF.out, ← hasFill_zero (fun _ => ((t + 1 : Nat) : Int)) (gi R) (fndUp o n who inn k R inn.length)] at ho
                  have e1 : IntKind.i64.wrap ((t : Int) + 1) = (t : Int) + 1 := IntWalk.i64_in _ (by omega)
                  go_wp2
                  go_loopw [83] (fun i wq => ∃ q : Nat, q ≤ fl ∧ i = .int .i64 q ∧ OI 2 wq g8 (.slice (some ⟨g8, 0, none⟩) k k) (hasFill (fun _ => ((t + 1 : Nat) : Int)) (gi R) (fndUp o n who inn k R inn.length) q k) ∧ OI 2 wq wl.heap.size (.slice (some ⟨gF, 0, none⟩) fl cx) (fndUp o n who inn k R inn.length) ∧ OB 4 wq w.heap.size (.slice (some ⟨gS, 0, none⟩) k cS) (mkM k inn) ∧ Box wq w.heap.size 30 #[.slice A0 k c0, .slice A1 n1 c1] ∧ Below w.heap.size w wq) (fun i _ => fl - (intOf i).toNat)
                  case atStart => exact ⟨0, Nat.zero_le _, rfl, ho, hx, hs, bx, hwr⟩
                  case round =>
                    clear ho hx hs bx hwr hw hbr
                    obtain ⟨q, hq, rfl, ho, hx, hs, bx, hw⟩ := hrel
                    by_cases hql : q < fl
                    · obtain ⟨u, hu, hun, _, _⟩ := fnd_some (o := o) (n := n) (who := who) (R := R) HSI.out (j := q) (by rw [HFL.out]; exact hql)
                      have hcx := hx.cellAt (i := q) (by rw [HFL.out]; exact hql)
                      have HU := Lib.hid hu
                      rw [hu] at hcx
                      clear hu
                      have hco := ho.cellAt (i := u) (by rw [hasFill_len]; exact hun)
                      have hfo := ho.hot (i := u) (by rw [hasFill_len])
                      have hui : (u : Int) < (k : Int) := by omega
                      have hu0 : (0 : Int) ≤ (u : Int) := by omega
                      have HX := Lib.hid (hasFill_step (f := fun _ => ((t + 1 : Nat) : Int)) (g := gi R) (n := k) (show q < (fndUp o n who inn k R inn.length).length by rw [HFL.out]; exact hql) HU.out hun)
                      go_wp2
                      go_roundw
                      case rel => exact ⟨q + 1, by omega, by go_num, by rw [← HX.out]; exact ho.set_ (by rw [hasFill_len]) _, hx.off (by show gF ≠ g8; omega) _, hs.off (by show gS ≠ g8; omega) _, bx.far (by show w.heap.size ≠ g8; omega) _, below_set (by show w.heap.size ≤ g8; omega) hw⟩
                      case measure => simp [intOf]; omega
                    · obtain rfl : q = fl := by omega
                      rw [hasFill_all (by rw [HFL.out]; omega), fnd_all] at ho
                      go_wp2
                      go_roundg (negs (rnkS o n who inn (mkM k inn) R (t + 1) k) + 1)
                      case rel => exact ⟨t + 1, _, by go_num, by rw [rnks, ← HRT.out], by have := HNEW.out; have := HNEG.out; omega, Nat.le_refl _, ho, hs, bx, hw⟩
                      case measure => have := HNEW.out; have := HGK.out; omega

end Go.Proofs.Ytblmcmccdeelgaa
namespace Go.Proofs.Ytblmcmccdeelgaa
open Go.RowKit


end Go.Proofs.Ytblmcmccdeelgaa
namespace Go.Proofs.Ytblmcmccdeelgaa
open Go.RowKit

theorem allL_set (n : Nat) : setB (allL n) (n : Int) = true := setB_true.2 fun i hi => by
  have h : i < n := by rwa [allL_len] at hi
  refine ⟨by rw [gi_all h]; omega, by rw [gi_all h]; omega, fun h0 => ?_⟩
  rw [gi_all h, gi_all (by omega)]
  omega
noncomputable def attrL (o : List Int) (n : List (List Int)) (who : Int) (inn goal : List Int) : List Int := wonUp (ranksL o n who inn goal) o.length
theorem wonUp_len (L : List Int) (k : Nat) : (wonUp L k).length ≤ k := pick_len _ _ _
theorem allOf (A0 A1 : Option Addr) (n0 c0 n1 c1 : Nat) (w : World) (B : Nat) (hB : B ≤ w.heap.size) (hn : n0 ≤ 256) :
    Calls Try.prog 45 #[.agg #[.slice A0 n0 c0, .slice A1 n1 c1]] w fun e w' => ∃ v, e = .returned v ∧ OI 2 w' B v (allL n0) ∧ Below B w w' := by
  have hba : Below w.heap.size w (w.alloc (.cells #[.slice A0 n0 c0, .slice A1 n1 c1] 30)) := below_alloc (Nat.le_refl _) (Below.refl _ _)
  have bx := Box.new w 30 #[.slice A0 n0 c0, .slice A1 n1 c1]
  have q0 := bx.d0; have q1 := bx.d1
  go_enter Try.func45, Try.ntmps45
  go_wp2_with fail
  refine (implSize _ _ _ _ _ _ _ _ (Nat.le_refl _) (by omega)).mono ?_; rintro e w0 ⟨rfl, hb0⟩
  have hw0 := below_then hb0 hba.size hba
  go_wp2_with fail
  refine (AllOf _ _ _ (Nat.le_refl _) (by omega) (by omega)).mono ?_; rintro e w1 ⟨v, rfl, ho, hb1⟩
  go_wp2
  go_ret
  exact ⟨_, rfl, ho.more (by have := hw0.size; omega), (below_then hb1 hw0.size hw0).mono hB⟩

set_option maxRecDepth 100000 in
set_option maxHeartbeats 800000 in
theorem attract (A0 A1 C1 C2 : Option Addr) (n0 c0 n1 c1 k1 d1 k2 d2 : Nat) (o : List Int) (n : List (List Int)) (who : Int) (inn goal : List Int) (w : World) (B : Nat) (hB : B ≤ w.heap.size) (ha : RI w A0 n0 c0 o) (hb : RII w A1 n1 c1 n) (hi : RI w C1 k1 d1 inn) (hg : RI w C2 k2 d2 goal) (hf : fineAr o n) (hsi : setB inn o.length = true) (hsg : setB goal o.length = true) :
    Calls Try.prog 47 #[.agg #[.slice A0 n0 c0, .slice A1 n1 c1], .int .i64 who, .slice C1 k1 d1, .slice C2 k2 d2] w fun e w' => ∃ v, e = .returned v ∧ OI 2 w' B v (attrL o n who inn goal) ∧ Below B w w' := by
  have HL := Lib.hid ha.len
  have hn0 : n0 ≤ 256 := by have := hf.2.1; rw [HL.out] at this; omega
  have E := Lib.hid (show attrL o n who inn goal = wonUp (ranksL o n who inn goal) n0 by unfold attrL; rw [HL.out])
  have hll : (ranksL o n who inn goal).length = n0 := by rw [ranksL_len, HL.out]
  have hba : Below w.heap.size w ((w.alloc (.cells #[.slice A0 n0 c0, .slice A1 n1 c1] 30)).alloc (.cells #[] 2)) := below_alloc (Nat.le_refl _) (below_alloc (Nat.le_refl _) (Below.refl _ _))
  have bx := (Box.new w 30 #[.slice A0 n0 c0, .slice A1 n1 c1]).alloc (.cells #[] 2)
  have q0 := bx.d0; have q1 := bx.d1
  have hem0 : OI 2 ((w.alloc (.cells #[.slice A0 n0 c0, .slice A1 n1 c1] 30)).alloc (.cells #[] 2)) w.heap.size (.slice (some ⟨w.heap.size + 1, 0, none⟩) 0 0) [] := by
    have := OI.empty (E := 2) (w := (w.alloc (.cells #[.slice A0 n0 c0, .slice A1 n1 c1] 30))) (B := w.heap.size) (by simp)
    simpa using this
  have hz0 : w.heap.size + 2 = ((w.alloc (.cells #[.slice A0 n0 c0, .slice A1 n1 c1] 30)).alloc (.cells #[] 2)).heap.size := by simp
  go_enter Try.func47, Try.ntmps47
  go_wp2_with fail
  generalize ((w.alloc (.cells #[.slice A0 n0 c0, .slice A1 n1 c1] 30)).alloc (.cells #[] 2)) = W at *
  replace hz0 : w.heap.size + 2 ≤ W.heap.size := by omega
  refine (ranksIn _ _ _ _ _ _ _ _ _ _ _ _ _ _ _ _ _ _ _ (Nat.le_refl _) (ha.keep (keeps_below hba)) (hb.keep (keeps_below hba)) (hi.keep (keeps_below hba)) (hg.keep (keeps_below hba)) hf hsi hsg).mono ?_; rintro e w1 ⟨v, rfl, ho, hb1⟩
  have hw2 := below_then hb1 hba.size hba
  obtain ⟨Av, cv, rfl⟩ := ho.form
  rw [hll] at ho ⊢
  generalize ranksL o n who inn goal = L at *
  have hem := hem0.below hb1
  have bc := ho.reads.cap; have bt := ho.reads.top
  have hz1 := hb1.size
  have HLL := Lib.hid hll
  clear hll q0 q1 hba bx hb1 hem0
  go_wp2
  go_loopw [9, 19] (fun x i wr => ∃ k : Nat, k ≤ n0 ∧ i = .int .i64 k ∧ OI 2 wr w.heap.size x (wonUp L k) ∧ (∀ b, x.ownBlock = some b → b = w.heap.size + 1 ∨ w1.heap.size ≤ b) ∧ Chg (fun b => b = w.heap.size + 1) w1 wr) (fun _ i _ => n0 - (intOf i).toNat)
  case atStart => exact ⟨0, Nat.zero_le _, rfl, hem, fun b hb => by have hb' : some (w.heap.size + 1) = some b := hb; injection hb' with e; exact .inl e.symm, Chg.refl _ _⟩
  case round =>
    obtain ⟨k, hk, rfl, hx, hxb, hch⟩ := hrel
    have hup := wonUp_len L k
    have hsz := hch.size
    by_cases hlt : k < n0
    · have ho' := ho.chg hch (fun b hb hs => by have := (ho.lt b hb).1; have := (ho.lt b hb).2; have hs' : b = w.heap.size + 1 := hs; omega)
      obtain ⟨bb, off, rfl, hc⟩ := ho'.reads.at_ hlt
      have hki : (k : Int) < (n0 : Int) := by omega
      by_cases hp : 0 ≤ gi L k
      · have HX := Lib.hid (show wonUp L (k + 1) = wonUp L k ++ [(k : Int)] from pick_yes (decide_eq_true hp))
        have hd : decide (0 ≤ gi L k) = true := decide_eq_true hp
        go_wp2_with (at_builtin; refine wpList_pushI rfl (.tmp 26) (.tmp 28) rfl _ _ _ (wonUp L k) rfl hx _ rfl (by omega) (by omega) ?_; intro v2 w2' ho2 hb2' hc2 hat2)
        go_roundw
        case rel => exact ⟨k + 1, by omega, by go_num, by rw [HX.out]; exact ho2, fun b hb => (hat2 b hb).elim (hxb b) (fun h => .inr (by omega)), hch.push hc2 hxb⟩
        case measure => simp [intOf]; omega
      · have HX := Lib.hid (show wonUp L (k + 1) = wonUp L k from pick_no (decide_eq_false hp))
        have hd : decide (0 ≤ gi L k) = false := decide_eq_false hp
        go_wp2
        go_roundw
        case rel => exact ⟨k + 1, by omega, by go_num, by rw [HX.out]; exact hx, hxb, hch⟩
        case measure => simp [intOf]; omega
    · obtain rfl : k = n0 := by omega
      go_wp2
      go_ret
      exact ⟨_, rfl, by rw [E.out]; exact hx.more (by omega), (hw2.mono hB).trans (hch.below (by omega) (fun b hb => by have : b = w.heap.size + 1 := hb; omega))⟩


end Go.Proofs.Ytblmcmccdeelgaa
namespace Go.Proofs.Ytblmcmccdeelgaa
open Go.RowKit

end Go.Proofs.Ytblmcmccdeelgaa
namespace Go.Proofs.Ytblmcmccdeelgaa
open Go.RowKit

theorem gi_app_lt {xs : List Int} {x : Int} {i : Nat} (h : i < xs.length) : gi (xs ++ [x]) i = gi xs i := by simp [gi, List.getElem?_append_left h]
theorem gi_app_eq {xs : List Int} {x : Int} : gi (xs ++ [x]) xs.length = x := by simp [gi]
theorem listUp_set (ms : List Bool) : ∀ k i, i < (listUp ms k).length → setAt (listUp ms k) (k : Int) i
  | 0, i, h => absurd h (by simp [listUp, pick])
  | k + 1, i, h => by
    have ih := listUp_set ms k
    by_cases e : gb ms k = true
    · have hs : listUp ms (k + 1) = listUp ms k ++ [(k : Int)] := pick_yes e
      rw [hs] at h ⊢
      rw [List.length_append, List.length_singleton] at h
      by_cases hi : i < (listUp ms k).length
      · obtain ⟨h1, h2, h3⟩ := ih i hi
        refine ⟨by rw [gi_app_lt hi]; exact h1, by rw [gi_app_lt hi]; omega, fun h0 => ?_⟩
        rw [gi_app_lt hi, gi_app_lt (by omega)]
        exact h3 h0
      · obtain rfl : i = (listUp ms k).length := by omega
        refine ⟨by rw [gi_app_eq]; omega, by rw [gi_app_eq]; omega, fun h0 => ?_⟩
        rw [gi_app_eq, gi_app_lt (by omega)]
        exact (ih _ (by omega)).2.1
    · have e' : gb ms k = false := by simpa using e
      have hs : listUp ms (k + 1) = listUp ms k := pick_no e'
      rw [hs] at h ⊢
      obtain ⟨h1, h2, h3⟩ := ih i h
      exact ⟨h1, by omega, h3⟩
theorem listM_set {ms : List Bool} {n : Nat} (h : ms.length = n) : setB (listM ms) (n : Int) = true := setB_true.2 fun i hi => by
  subst h
  exact listUp_set ms _ i hi
theorem mkM_list {ms : List Bool} {n : Nat} (h : ms.length = n) : mkM n (listM ms) = ms := gb_ext (by rw [mkM_len, h]) fun j hj => by
  rw [mkM_len] at hj
  rw [mkM_at hj]
  cases hg : gb ms j with
  | true => exact decide_eq_true (mem_pick.2 ⟨j, by omega, hg, rfl⟩)
  | false =>
    refine decide_eq_false fun hm => ?_
    obtain ⟨i, _, h2, h3⟩ := mem_pick.1 hm
    obtain rfl : i = j := by omega
    rw [h2] at hg
    cases hg
theorem stayM_len {o : List Int} {n : List (List Int)} {who : Int} {s : List Int} : (stayM o n who s).length = o.length := by
  unfold stayM gfp
  have h0 : ∃ r, isGfp (intoB o n who) o.length (mkM o.length s) r := gfp_ex _ _ _ (mkM_len _ _)
  have := (@Classical.epsilon_spec _ (isGfp (intoB o n who) o.length (mkM o.length s)) h0).len
  rw [mkM_len] at this
  exact this

end Go.Proofs.Ytblmcmccdeelgaa
namespace Go.Proofs.Ytblmcmccdeelgaa
open Go.RowKit

/-- what has a rank is in the set -/
theorem rnks_in {o : List Int} {n : List (List Int)} {who : Int} {inn goal : List Int} {m : Nat} : ∀ {k u : Nat}, u < m → 0 ≤ gi (rnks o n who inn goal m k) u → gb (mkM m inn) u = true
  | 0, u, hu, h => by
    rw [rnks] at h; unfold rnk0 at h
    rw [fill_at hu] at h
    split at h
    · split at h
      · assumption
      · omega
    · omega
  | k + 1, u, hu, h => by
    rw [rnks] at h; unfold rnkS at h
    rw [fill_at hu] at h
    split at h
    · rename_i h1
      rw [mkM_at hu]; exact h1
    · exact rnks_in hu h
theorem ranksL_in {o : List Int} {n : List (List Int)} {who : Int} {inn goal : List Int} {u : Nat} (hu : u < o.length) (h : 0 ≤ gi (ranksL o n who inn goal) u) : gb (mkM o.length inn) u = true := by
  obtain ⟨k, hk, _⟩ := ranksL_is o n who inn goal
  rw [hk] at h
  exact rnks_in hu h
theorem rnks_done (o : List Int) (n : List (List Int)) (who : Int) (inn goal : List Int) (m : Nat) : ∀ t, t + negs (rnks o n who inn goal m t) ≤ m ∨ rnkEnd o n who inn (rnks o n who inn goal m t) m
  | 0 => .inl (by have := rnk0_negs o n who inn goal m; omega)
  | t + 1 => by
    by_cases e : rnkEnd o n who inn (rnks o n who inn goal m t) m
    · right
      rw [rnks, rnkS_end (rnks_len _ _ _ _ _ _ _) e]
      exact e
    · left
      have h := (rnks_done o n who inn goal m t).resolve_right e
      have hx : ∃ v, v < m ∧ hasL inn (v : Int) = true ∧ rnkC o n who (mkM m inn) (rnks o n who inn goal m t) v = true := by
        refine Classical.byContradiction fun hne => e fun v hv hi => ?_
        cases hc : rnkC o n who (mkM m inn) (rnks o n who inn goal m t) v with
        | false => rfl
        | true => exact absurd ⟨v, hv, hi, hc⟩ hne
      obtain ⟨v, hv, hi, hc⟩ := hx
      have := rnkS_negs (k := t + 1) (rnks_len o n who inn goal m t) hv hi hc
      rw [rnks]
      omega
theorem ranksL_eq (o : List Int) (n : List (List Int)) (who : Int) (inn goal : List Int) : ranksL o n who inn goal = rnks o n who inn goal o.length o.length := by
  have h : rnkEnd o n who inn (rnks o n who inn goal o.length o.length) o.length := by
    rcases rnks_done o n who inn goal o.length o.length with h | h
    · exact rnkEnd_full (rnks_len _ _ _ _ _ _ _) (by omega)
    · exact h
  exact ((show isRnk o n who inn goal o.length _ from ⟨_, rfl, h⟩).is).symm
theorem ranksL_bound (o : List Int) (n : List (List Int)) (who : Int) (inn goal : List Int) (u : Nat) : -1 ≤ gi (ranksL o n who inn goal) u := by
  obtain ⟨k, hk, _⟩ := ranksL_is o n who inn goal
  rcases Nat.lt_or_ge u o.length with h | h
  · rw [hk]; exact (rnks_top (o := o) (n := n) (who := who) (inn := inn) (goal := goal) k u h).2
  · rw [gi_out (by rw [ranksL_len]; exact h)]; omega


end Go.Proofs.Ytblmcmccdeelgaa
namespace Go.Proofs.Ytblmcmccdeelgaa
open Go.RowKit

/-! ### rising lists -/
theorem rises_pair {xs : List Int} : rises xs ↔ xs.Pairwise (· < ·) := by
  rw [List.pairwise_iff_getElem]
  unfold rises
  constructor
  · intro h i j hi hj hij
    have := h i j hij hj
    rwa [gi_get hi, gi_get hj] at this
  · intro h i j hij hj
    rw [gi_get (by omega), gi_get hj]
    exact h i j (by omega) hj hij
theorem pair_ext : ∀ {a b : List Int}, a.Pairwise (· < ·) → b.Pairwise (· < ·) → (∀ x, x ∈ a ↔ x ∈ b) → a = b
  | [], [], _, _, _ => rfl
  | [], y :: ys, _, _, h => absurd ((h y).2 (List.mem_cons_self ..)) (by simp)
  | x :: xs, [], _, _, h => absurd ((h x).1 (List.mem_cons_self ..)) (by simp)
  | x :: xs, y :: ys, ha, hb, h => by
    rw [List.pairwise_cons] at ha hb
    have e : x = y := by
      rcases List.mem_cons.1 ((h x).1 (List.mem_cons_self ..)) with e | e
      · exact e
      · rcases List.mem_cons.1 ((h y).2 (List.mem_cons_self ..)) with e' | e'
        · exact e'.symm
        · have := hb.1 x e; have := ha.1 y e'; omega
    subst e
    rw [pair_ext ha.2 hb.2 fun z => ?_]
    have hz := h z
    rw [List.mem_cons, List.mem_cons] at hz
    constructor
    · intro m
      rcases hz.1 (.inr m) with e | e
      · have := ha.1 z m; omega
      · exact e
    · intro m
      rcases hz.2 (.inr m) with e | e
      · have := hb.1 z m; omega
      · exact e
theorem rises_ext {a b : List Int} (ha : rises a) (hb : rises b) (h : ∀ x, x ∈ a ↔ x ∈ b) : a = b := pair_ext (rises_pair.1 ha) (rises_pair.1 hb) h
theorem setB_of_rises {xs : List Int} {n : Int} (h : rises xs) (hb : ∀ x, x ∈ xs → 0 ≤ x ∧ x < n) : setB xs n = true := setB_true.2 fun i hi => by
  refine ⟨(hb _ (gi_mem hi)).1, (hb _ (gi_mem hi)).2, fun h0 => h _ _ (by omega) hi⟩
theorem set_mem {xs : List Int} {n : Int} (h : setB xs n = true) {x : Int} (hx : x ∈ xs) : 0 ≤ x ∧ x < n := by
  obtain ⟨i, hi, rfl⟩ := mem_gi hx
  have := setB_true.1 h i hi
  exact ⟨this.1, this.2.1⟩
theorem pick_rises {p : Nat → Bool} {f : Nat → Int} {k : Nat} (h : ∀ i j, i < j → j < k → f i < f j) : rises (pick p f k) := by
  rw [rises_pair]
  induction k with
  | zero => exact List.Pairwise.nil
  | succ k ih =>
    have ih' := ih fun i j h1 h2 => h i j h1 (by omega)
    cases hp : p k with
    | false => rw [pick_no hp]; exact ih'
    | true =>
      rw [pick_yes hp, List.pairwise_append]
      refine ⟨ih', List.pairwise_singleton _ _, fun x hx y hy => ?_⟩
      rw [List.mem_singleton] at hy
      obtain ⟨i, hi, _, rfl⟩ := mem_pick.1 hx
      rw [hy]
      exact h i k hi (by omega)
theorem mem_listM {ms : List Bool} {x : Int} : x ∈ listM ms ↔ ∃ v : Nat, v < ms.length ∧ gb ms v = true ∧ (v : Int) = x := mem_pick
theorem listM_rises (ms : List Bool) : rises (listM ms) := pick_rises fun i j h _ => by omega
theorem setB_up {xs : List Int} {n m : Int} (h : setB xs n = true) (hm : n ≤ m) : setB xs m = true :=
  setB_of_rises (rises_set h) fun x hx => by have := set_mem h hx; omega
theorem hasL_iff {xs : List Int} {x : Int} : hasL xs x = true ↔ x ∈ xs := decide_eq_true_iff
theorem mkM_iff {m : Nat} {xs : List Int} {v : Nat} (hv : v < m) : gb (mkM m xs) v = true ↔ (v : Int) ∈ xs := by rw [mkM_at hv, hasL_iff]

/-! ### the greatest set -/
theorem sweep_sub {kf : List Bool → Nat → Bool} {ms : List Bool} : ∀ {k v : Nat}, gb (sweep kf ms k) v = true → gb ms v = true
  | 0, _, h => h
  | k + 1, v, h => by
    rw [sweep] at h
    split at h
    · rename_i hc
      rw [Bool.and_eq_true] at hc
      have hk : k < (sweep kf ms k).length := by
        rcases Nat.lt_or_ge k (sweep kf ms k).length with h1 | h1
        · exact h1
        · have := hc.1; unfold gb at this; rw [List.getD_eq_getElem?_getD, List.getElem?_eq_none h1] at this; cases this
      rw [gb_set hk] at h
      split at h
      · cases h
      · exact sweep_sub h
    · exact sweep_sub h
theorem sweep_fix {kf : List Bool → Nat → Bool} {ms : List Bool} {m : Nat} (h : sweep kf ms m = ms) : ∀ k, k ≤ m → sweep kf ms k = ms := by
  intro k hk
  rcases sweep_cnt kf ms k with e | e
  · exact e
  · exfalso
    have mono : ∀ d, cnt (sweep kf ms (k + d)) ≤ cnt (sweep kf ms k) := by
      intro d
      induction d with
      | zero => exact Nat.le_refl _
      | succ d ih =>
        rw [← Nat.add_assoc]
        by_cases hc : (gb (sweep kf ms (k + d)) (k + d) && !kf (sweep kf ms (k + d)) (k + d)) = true
        · rw [Bool.and_eq_true] at hc
          rw [sweep_hit hc.1 (by simpa using hc.2)]
          have := cnt_off hc.1
          omega
        · rw [sweep, if_neg hc]; exact ih
    have := mono (m - k)
    rw [show k + (m - k) = m from by omega, h] at this
    omega
theorem sweep_closed {kf : List Bool → Nat → Bool} {ms : List Bool} {m : Nat} (h : sweep kf ms m = ms) {v : Nat} (hv : v < m) (hg : gb ms v = true) : kf ms v = true := by
  have h1 := sweep_fix h v (by omega)
  have h2 := sweep_fix h (v + 1) (by omega)
  rw [sweep, h1] at h2
  cases hk : kf ms v with
  | true => rfl
  | false =>
    rw [hg, hk] at h2
    simp only [Bool.not_false, Bool.and_self, if_true] at h2
    have := cnt_off hg
    rw [h2] at this
    omega
theorem sweep_sup {kf : List Bool → Nat → Bool} {ms Y : List Bool} (hm : ∀ Z v, (∀ u, gb Y u = true → gb Z u = true) → kf Y v = true → kf Z v = true) (hY : ∀ v, gb Y v = true → kf Y v = true) (h0 : ∀ u, gb Y u = true → gb ms u = true) : ∀ k u, gb Y u = true → gb (sweep kf ms k) u = true
  | 0, u, h => h0 u h
  | k + 1, u, h => by
    have ih := sweep_sup hm hY h0 k
    rw [sweep]
    split
    · rename_i hc
      rw [Bool.and_eq_true] at hc
      have hk : k < (sweep kf ms k).length := by
        rcases Nat.lt_or_ge k (sweep kf ms k).length with h1 | h1
        · exact h1
        · have := hc.1; unfold gb at this; rw [List.getD_eq_getElem?_getD, List.getElem?_eq_none h1] at this; cases this
      rw [gb_set hk]
      split
      · rename_i e
        subst e
        have := hm _ k ih (hY k h)
        rw [this] at hc
        exact absurd hc.2 (by decide)
      · exact ih u h
    · exact ih u h
theorem sweeps_sup {kf : List Bool → Nat → Bool} {m : Nat} {ms Y : List Bool} (hm : ∀ Z v, (∀ u, gb Y u = true → gb Z u = true) → kf Y v = true → kf Z v = true) (hY : ∀ v, gb Y v = true → kf Y v = true) (h0 : ∀ u, gb Y u = true → gb ms u = true) : ∀ t u, gb Y u = true → gb (sweeps kf m ms t) u = true
  | 0, u, h => h0 u h
  | t + 1, u, h => by rw [sweeps]; exact sweep_sup hm hY (sweeps_sup hm hY h0 t) m u h
theorem sweeps_sub {kf : List Bool → Nat → Bool} {m : Nat} {ms : List Bool} : ∀ {t v : Nat}, gb (sweeps kf m ms t) v = true → gb ms v = true
  | 0, _, h => h
  | t + 1, v, h => by rw [sweeps] at h; exact sweeps_sub (sweep_sub h)
theorem gfp_spec (kf : List Bool → Nat → Bool) (m : Nat) (ms : List Bool) (h : ms.length = m) : isGfp kf m ms (gfp kf m ms) := by
  obtain ⟨r, hr⟩ := gfp_ex kf m ms h
  rw [← hr.is]; exact hr
theorem gfp_len {kf : List Bool → Nat → Bool} {m : Nat} {ms : List Bool} (h : ms.length = m) : (gfp kf m ms).length = m := by rw [(gfp_spec kf m ms h).len, h]
theorem gfp_sub {kf : List Bool → Nat → Bool} {m : Nat} {ms : List Bool} (h : ms.length = m) {v : Nat} (hv : gb (gfp kf m ms) v = true) : gb ms v = true := by
  obtain ⟨t, e, _⟩ := gfp_spec kf m ms h
  rw [e] at hv
  exact sweeps_sub hv
theorem gfp_closed {kf : List Bool → Nat → Bool} {m : Nat} {ms : List Bool} (h : ms.length = m) {v : Nat} (hl : v < m) (hv : gb (gfp kf m ms) v = true) : kf (gfp kf m ms) v = true := by
  obtain ⟨t, e, f⟩ := gfp_spec kf m ms h
  exact sweep_closed f hl hv
theorem gfp_sup {kf : List Bool → Nat → Bool} {m : Nat} {ms Y : List Bool} (h : ms.length = m) (hm : ∀ Z v, (∀ u, gb Y u = true → gb Z u = true) → kf Y v = true → kf Z v = true) (hY : ∀ v, gb Y v = true → kf Y v = true) (h0 : ∀ u, gb Y u = true → gb ms u = true) {u : Nat} (hu : gb Y u = true) : gb (gfp kf m ms) u = true := by
  obtain ⟨t, e, _⟩ := gfp_spec kf m ms h
  rw [e]
  exact sweeps_sup hm hY h0 t u hu

/-! ### a step into a set -/
theorem someUp_iff {ns : List Int} {ms : List Bool} : ∀ {k : Nat}, someUp ns ms k = true ↔ ∃ i, i < k ∧ gb ms (gi ns i).toNat = true
  | 0 => by simp [someUp]
  | k + 1 => by
    rw [someUp, Bool.or_eq_true, someUp_iff]
    constructor
    · rintro (⟨i, hi, h⟩ | h)
      · exact ⟨i, by omega, h⟩
      · exact ⟨k, by omega, h⟩
    · rintro ⟨i, hi, h⟩
      by_cases e : i = k
      · subst e; exact .inr h
      · exact .inl ⟨i, by omega, h⟩
theorem allUp_iff {ns : List Int} {ms : List Bool} : ∀ {k : Nat}, allUp ns ms k = true ↔ ∀ i, i < k → gb ms (gi ns i).toNat = true
  | 0 => by simp [allUp]
  | k + 1 => by
    rw [allUp, Bool.and_eq_true, allUp_iff]
    constructor
    · rintro ⟨h1, h2⟩ i hi
      by_cases e : i = k
      · subst e; exact h2
      · exact h1 i (by omega)
    · intro h
      exact ⟨fun i hi => h i (by omega), h k (by omega)⟩
theorem intoB_mine {o : List Int} {n : List (List Int)} {who : Int} {ms : List Bool} {v : Nat} (h : gi o v = who) : intoB o n who ms v = true ↔ ∃ i, i < (gl n v).length ∧ gb ms (gi (gl n v) i).toNat = true := by
  unfold intoB; rw [if_pos h, someUp_iff]
theorem intoB_yours {o : List Int} {n : List (List Int)} {who : Int} {ms : List Bool} {v : Nat} (h : ¬ gi o v = who) : intoB o n who ms v = true ↔ ∀ i, i < (gl n v).length → gb ms (gi (gl n v) i).toNat = true := by
  unfold intoB; rw [if_neg h, allUp_iff]
theorem intoB_mono {o : List Int} {n : List (List Int)} {who : Int} {Y Z : List Bool} {v : Nat} (h : ∀ u, gb Y u = true → gb Z u = true) (hY : intoB o n who Y v = true) : intoB o n who Z v = true := by
  by_cases e : gi o v = who
  · obtain ⟨i, hi, hg⟩ := (intoB_mine e).1 hY
    exact (intoB_mine e).2 ⟨i, hi, h _ hg⟩
  · exact (intoB_yours e).2 fun i hi => h _ ((intoB_yours e).1 hY i hi)

/-! ### the attractor -/
theorem mem_attrL {o : List Int} {n : List (List Int)} {who : Int} {inn goal : List Int} {x : Int} : x ∈ attrL o n who inn goal ↔ ∃ v : Nat, v < o.length ∧ 0 ≤ gi (ranksL o n who inn goal) v ∧ (v : Int) = x := by
  unfold attrL
  rw [show wonUp (ranksL o n who inn goal) o.length = pick (fun v => decide (0 ≤ gi (ranksL o n who inn goal) v)) (fun v => (v : Int)) o.length from rfl, mem_pick]
  simp only [decide_eq_true_iff]
theorem attrL_set (o : List Int) (n : List (List Int)) (who : Int) (inn goal : List Int) : setB (attrL o n who inn goal) o.length = true :=
  setB_of_rises (pick_rises fun i j h _ => by omega) fun x hx => by
    obtain ⟨v, hv, _, rfl⟩ := mem_attrL.1 hx
    omega
theorem attr_in {o : List Int} {n : List (List Int)} {who : Int} {inn goal : List Int} {x : Int} (h : x ∈ attrL o n who inn goal) : x ∈ inn := by
  obtain ⟨v, hv, hr, rfl⟩ := mem_attrL.1 h
  exact (mkM_iff hv).1 (ranksL_in hv hr)
theorem ranks_end (o : List Int) (n : List (List Int)) (who : Int) (inn goal : List Int) : rnkEnd o n who inn (ranksL o n who inn goal) o.length := by
  obtain ⟨k, hk, h⟩ := ranksL_is o n who inn goal
  exact h
theorem attr_goal {o : List Int} {n : List (List Int)} {who : Int} {inn goal : List Int} {v : Nat} (hv : v < o.length) (hg : (v : Int) ∈ goal) (hi : (v : Int) ∈ inn) : (v : Int) ∈ attrL o n who inn goal := by
  refine mem_attrL.2 ⟨v, hv, ?_, rfl⟩
  obtain ⟨k, hk, _⟩ := ranksL_is o n who inn goal
  rw [hk]
  clear hk
  have key : ∀ k, gi (rnks o n who inn goal o.length k) v = 0 := by
    intro k
    induction k with
    | zero =>
      rw [rnks]; unfold rnk0
      rw [fill_at hv, if_pos (hasL_iff.2 hg), if_pos ((mkM_iff hv).2 hi)]
    | succ k ih =>
      rw [rnks]; unfold rnkS
      rw [fill_at hv, if_pos (hasL_iff.2 hi), if_neg, ih]
      unfold rnkC
      rw [ih]; simp
  rw [key]; exact Int.le_refl _
theorem attr_pull {o : List Int} {n : List (List Int)} {who : Int} {inn goal : List Int} {v : Nat} (hv : v < o.length) (hi : (v : Int) ∈ inn) (hp : pulledB o n who (mkM o.length inn) (ranksL o n who inn goal) v = true) : (v : Int) ∈ attrL o n who inn goal := by
  refine mem_attrL.2 ⟨v, hv, ?_, rfl⟩
  have h := ranks_end o n who inn goal v hv (hasL_iff.2 hi)
  unfold rnkC at h
  rw [hp, Bool.and_true] at h
  have := of_decide_eq_false h
  omega
/-- whatever holds of the goal and is handed on to what is pulled holds of the attractor -/
theorem attr_ind {o : List Int} {n : List (List Int)} {who : Int} {inn goal : List Int} (X : Nat → Prop)
    (h0 : ∀ v : Nat, v < o.length → (v : Int) ∈ goal → (v : Int) ∈ inn → X v)
    (h1 : ∀ (v : Nat) (R : List Int), v < o.length → (v : Int) ∈ inn → (∀ u, u < o.length → 0 ≤ gi R u → X u) → pulledB o n who (mkM o.length inn) R v = true → X v) :
    ∀ v : Nat, (v : Int) ∈ attrL o n who inn goal → X v := by
  have key : ∀ k v, v < o.length → 0 ≤ gi (rnks o n who inn goal o.length k) v → X v := by
    intro k
    induction k with
    | zero =>
      intro v hv h
      rw [rnks] at h; unfold rnk0 at h
      rw [fill_at hv] at h
      split at h
      · rename_i hg
        split at h
        · rename_i hi
          exact h0 v hv (hasL_iff.1 hg) ((mkM_iff hv).1 hi)
        · omega
      · omega
    | succ k ih =>
      intro v hv h
      rw [rnks] at h; unfold rnkS at h
      rw [fill_at hv] at h
      split at h
      · rename_i hi
        split at h
        · rename_i hc
          unfold rnkC at hc
          rw [Bool.and_eq_true] at hc
          exact h1 v _ hv (hasL_iff.1 hi) (fun u hu h => ih u hu h) hc.2
        · exact ih v hv h
      · exact ih v hv h
  intro v hv
  obtain ⟨u, hu, hr, e⟩ := mem_attrL.1 hv
  obtain ⟨k, hk, _⟩ := ranksL_is o n who inn goal
  rw [hk] at hr
  have : u = v := by omega
  subst this
  exact key k u hu hr
/-! ### the rounds -/
/-- who need not leave the set -/
def shut (o : List Int) (n : List (List Int)) (who : Int) (s : List Int) : Prop := ∀ v : Nat, v < o.length → (v : Int) ∈ s → intoB o n who (mkM o.length s) v = true
theorem shut_all {o : List Int} {n : List (List Int)} (hf : fineAr o n) (who : Int) : shut o n who (allL o.length) := by
  intro v hv _
  obtain ⟨_, ⟨h1, _⟩, hs⟩ := hf.2.2.2 v hv
  have hin : ∀ i, i < (gl n v).length → gb (mkM o.length (allL o.length)) (gi (gl n v) i).toNat = true := by
    intro i hi
    have := setB_true.1 hs i hi
    have hu : (gi (gl n v) i).toNat < o.length := by have h1 := this.1; have h2 := this.2.1; omega
    rw [mkM_iff hu]
    have := gi_mem (xs := allL o.length) (i := (gi (gl n v) i).toNat) (by rw [allL_len]; exact hu)
    rwa [gi_all hu] at this
  by_cases e : gi o v = who
  · exact (intoB_mine e).2 ⟨0, by omega, hin 0 (by omega)⟩
  · exact (intoB_yours e).2 hin
/-- one round -/
noncomputable def oftStep (o : List Int) (n : List (List Int)) (who : Int) (goal s : List Int) : List Int := listM (stayM o n who (attrL o n who s goal))
theorem oftStep_set (o : List Int) (n : List (List Int)) (who : Int) (goal s : List Int) : setB (oftStep o n who goal s) o.length = true := listM_set stayM_len
theorem gb_lt {ms : List Bool} {v : Nat} (h : gb ms v = true) : v < ms.length := by
  rcases Nat.lt_or_ge v ms.length with h1 | h1
  · exact h1
  · unfold gb at h; rw [List.getD_eq_getElem?_getD, List.getElem?_eq_none h1] at h; cases h
theorem mem_stay {o : List Int} {n : List (List Int)} {who : Int} {s : List Int} {v : Nat} : (v : Int) ∈ listM (stayM o n who s) ↔ gb (stayM o n who s) v = true := by
  rw [mem_listM]
  constructor
  · rintro ⟨u, _, h, e⟩
    have : u = v := by omega
    rw [← this]; exact h
  · intro h
    exact ⟨v, gb_lt h, h, rfl⟩
theorem stay_sub {o : List Int} {n : List (List Int)} {who : Int} {s : List Int} {x : Int} (h : x ∈ listM (stayM o n who s)) : x ∈ s := by
  obtain ⟨v, hv, hg, rfl⟩ := mem_listM.1 h
  rw [stayM_len] at hv
  exact (mkM_iff hv).1 (gfp_sub (mkM_len _ _) hg)
theorem mkM_eq {ms : List Bool} {m : Nat} (h : ms.length = m) : mkM m (listM ms) = ms := mkM_list h
theorem stay_shut (o : List Int) (n : List (List Int)) (who : Int) (s : List Int) : shut o n who (listM (stayM o n who s)) := by
  intro v hv hm
  rw [mkM_eq stayM_len]
  exact gfp_closed (mkM_len _ _) hv (mem_stay.1 hm)
theorem stay_sup {o : List Int} {n : List (List Int)} {who : Int} {s t : List Int} (ht : ∀ x, x ∈ t → 0 ≤ x ∧ x < o.length) (hs : shut o n who t) (h : ∀ x, x ∈ t → x ∈ s) {x : Int} (hx : x ∈ t) : x ∈ listM (stayM o n who s) := by
  obtain ⟨h0, h1⟩ := ht x hx
  obtain ⟨v, rfl⟩ : ∃ v : Nat, x = (v : Int) := ⟨x.toNat, by omega⟩
  rw [mem_stay]
  have hlt : ∀ u, gb (mkM o.length t) u = true → u < o.length := fun u hu => by have := gb_lt hu; rwa [mkM_len] at this
  refine gfp_sup (Y := mkM o.length t) (mkM_len _ _) (fun Z v hZ => intoB_mono hZ) (fun v hv => hs v (hlt v hv) ((mkM_iff (hlt v hv)).1 hv)) (fun u hu => (mkM_iff (hlt u hu)).2 (h _ ((mkM_iff (hlt u hu)).1 hu))) ?_
  exact (mkM_iff (by omega)).2 hx
theorem setB_nat {xs : List Int} {m : Nat} (h : setB xs (m : Int) = true) {i : Nat} (hi : i < xs.length) : (gi xs i).toNat < m ∧ ((gi xs i).toNat : Int) = gi xs i := by
  have h0 := setB_true.1 h i hi
  have h1 := h0.1; have h2 := h0.2.1
  exact ⟨by omega, by omega⟩
/-- the rounds -/
noncomputable def oftS (o : List Int) (n : List (List Int)) (who : Int) (goal : List Int) : Nat → List Int
  | 0 => allL o.length
  | k + 1 => oftStep o n who goal (oftS o n who goal k)
theorem oftS_set (o : List Int) (n : List (List Int)) (who : Int) (goal : List Int) (k : Nat) : setB (oftS o n who goal k) o.length = true := by
  cases k with
  | zero => exact allL_set _
  | succ k => exact oftStep_set _ _ _ _ _
theorem oftS_shut {o : List Int} {n : List (List Int)} (hf : fineAr o n) (who : Int) (goal : List Int) (k : Nat) : shut o n who (oftS o n who goal k) := by
  cases k with
  | zero => exact shut_all hf who
  | succ k => exact stay_shut _ _ _ _
def isOft (o : List Int) (n : List (List Int)) (who : Int) (goal R : List Int) : Prop := ∃ k, R = oftS o n who goal k ∧ oftStep o n who goal R = R
theorem oftS_fix {o : List Int} {n : List (List Int)} {who : Int} {goal : List Int} {k : Nat} (h : oftStep o n who goal (oftS o n who goal k) = oftS o n who goal k) : ∀ d, oftS o n who goal (k + d) = oftS o n who goal k
  | 0 => rfl
  | d + 1 => by rw [← Nat.add_assoc, oftS, oftS_fix h d, h]
theorem isOft.eq {o : List Int} {n : List (List Int)} {who : Int} {goal r r' : List Int} (h : isOft o n who goal r) (h' : isOft o n who goal r') : r = r' := by
  obtain ⟨t, rfl, hf⟩ := h
  obtain ⟨t', rfl, hf'⟩ := h'
  rcases Nat.le_total t t' with hl | hl
  · have := oftS_fix hf (t' - t)
    rw [show t + (t' - t) = t' from by omega] at this
    exact this.symm
  · have := oftS_fix hf' (t - t')
    rw [show t' + (t - t') = t from by omega] at this
    exact this
noncomputable def oftL (o : List Int) (n : List (List Int)) (who : Int) (goal : List Int) : List Int := @Classical.epsilon _ ⟨[]⟩ (isOft o n who goal)
theorem isOft.is {o : List Int} {n : List (List Int)} {who : Int} {goal r : List Int} (h : isOft o n who goal r) : r = oftL o n who goal := h.eq (@Classical.epsilon_spec _ (isOft o n who goal) ⟨r, h⟩)
/-- a set within another one, no shorter, is that one -/
theorem sub_len : ∀ {a b : List Int}, a.Pairwise (· < ·) → b.Pairwise (· < ·) → (∀ x, x ∈ a → x ∈ b) → a.length ≤ b.length ∧ (b.length ≤ a.length → a = b)
  | [], b, _, _, _ => ⟨by simp, fun h => by cases b with | nil => rfl | cons => simp at h⟩
  | x :: xs, [], _, _, h => absurd (h x (List.mem_cons_self ..)) (by simp)
  | x :: xs, y :: ys, ha, hb, h => by
    rw [List.pairwise_cons] at ha hb
    have step : (∀ z, z ∈ xs → z ∈ ys) := by
      intro z hz
      rcases List.mem_cons.1 (h z (List.mem_cons_of_mem _ hz)) with e | e
      · subst e
        rcases List.mem_cons.1 (h x (List.mem_cons_self ..)) with e' | e'
        · have := ha.1 z hz; omega
        · have := ha.1 z hz; have := hb.1 x e'; omega
      · exact e
    have ih := sub_len ha.2 hb.2 step
    refine ⟨by simp only [List.length_cons]; omega, fun hl => ?_⟩
    simp only [List.length_cons] at hl
    have e := ih.2 (by omega)
    subst e
    rcases List.mem_cons.1 (h x (List.mem_cons_self ..)) with e' | e'
    · rw [e']
    · have := ha.1 x e'; omega
theorem oftStep_sub {o : List Int} {n : List (List Int)} {who : Int} {goal s : List Int} {x : Int} (h : x ∈ oftStep o n who goal s) : x ∈ s := attr_in (stay_sub h)
theorem oftStep_len {o : List Int} {n : List (List Int)} {who : Int} {goal s : List Int} (hs : setB s o.length = true) : (oftStep o n who goal s).length ≤ s.length ∧ (s.length ≤ (oftStep o n who goal s).length → oftStep o n who goal s = s) :=
  sub_len (rises_pair.1 (listM_rises _)) (rises_pair.1 (rises_set hs)) fun _ h => oftStep_sub h
theorem stay_id {o : List Int} {n : List (List Int)} {who : Int} {s : List Int} (hs : setB s o.length = true) (hc : shut o n who s) : listM (stayM o n who s) = s :=
  rises_ext (listM_rises _) (rises_set hs) fun _ => ⟨fun h => stay_sub h, fun h => stay_sup (fun _ hx => set_mem hs hx) hc (fun _ h => h) h⟩
theorem oft_end {o : List Int} {n : List (List Int)} {who : Int} {goal s : List Int} (hs : setB s o.length = true) (hc : shut o n who s) : attrL o n who s goal = s ↔ oftStep o n who goal s = s := by
  constructor
  · intro h
    unfold oftStep
    rw [h]; exact stay_id hs hc
  · intro h
    refine rises_ext (rises_set (attrL_set _ _ _ _ _)) (rises_set hs) fun x => ⟨fun h => attr_in h, fun hx => ?_⟩
    rw [← h] at hx
    exact stay_sub hx
noncomputable def oftR (o : List Int) (n : List (List Int)) (who : Int) (goal : List Int) : List Int := if okA o n who goal = true then oftL o n who goal else []
theorem oft_ex (o : List Int) (n : List (List Int)) (who : Int) (goal : List Int) : ∃ R, isOft o n who goal R := by
  have key : ∀ c t, (oftS o n who goal t).length ≤ c → ∃ R, isOft o n who goal R := by
    intro c
    induction c with
    | zero =>
      intro t ht
      exact ⟨_, t, rfl, (oftStep_len (oftS_set _ _ _ _ _)).2 (by omega)⟩
    | succ c ih =>
      intro t ht
      have h := oftStep_len (o := o) (n := n) (who := who) (goal := goal) (oftS_set o n who goal t)
      by_cases e : (oftS o n who goal t).length ≤ (oftStep o n who goal (oftS o n who goal t)).length
      · exact ⟨_, t, rfl, h.2 e⟩
      · exact ih (t + 1) (by rw [oftS]; omega)
  exact key _ 0 (Nat.le_refl _)
theorem oftL_is (o : List Int) (n : List (List Int)) (who : Int) (goal : List Int) : isOft o n who goal (oftL o n who goal) := by
  obtain ⟨R, h⟩ := oft_ex o n who goal
  rw [← h.is]; exact h
theorem oftL_set (o : List Int) (n : List (List Int)) (who : Int) (goal : List Int) : setB (oftL o n who goal) o.length = true := by
  obtain ⟨k, e, _⟩ := oftL_is o n who goal
  rw [e]; exact oftS_set _ _ _ _ _
/-! ### first choices, ranks -/
theorem firstU_is {al : Nat → Bool} {ns : List Int} : ∀ {k : Nat}, 0 ≤ firstU al ns k → al (firstU al ns k).toNat = true
  | 0, h => by simp [firstU] at h
  | k + 1, h => by
    rw [firstU] at h ⊢
    split at h
    · rename_i h1
      rw [if_pos h1]
      split at h
      · rename_i h2
        rw [if_pos h2]; exact h2
      · omega
    · rename_i h1
      rw [if_neg h1]
      exact firstU_is h
theorem firstU_some {al : Nat → Bool} {ns : List Int} : ∀ {k : Nat}, (∀ j, j < k → 0 ≤ gi ns j) → (∃ j, j < k ∧ al (gi ns j).toNat = true) → 0 ≤ firstU al ns k
  | 0, _, ⟨j, hj, _⟩ => absurd hj (by omega)
  | k + 1, h0, ⟨j, hj, ha⟩ => by
    rw [firstU]
    by_cases e : firstU al ns k < 0
    · rw [if_pos e]
      by_cases ej : j = k
      · subst ej
        rw [if_pos ha]; exact h0 j (by omega)
      · have := firstU_some (fun i hi => h0 i (by omega)) ⟨j, show j < k by omega, ha⟩
        omega
    · rw [if_neg e]; omega
section
variable {o : List Int} {n : List (List Int)} {who : Int} {goal : List Int}
theorem rank_zero {inn : List Int} {v : Nat} (hv : v < o.length) (h : gi (ranksL o n who inn goal) v = 0) : (v : Int) ∈ goal := by
  obtain ⟨k, hk, _⟩ := ranksL_is o n who inn goal
  rw [hk] at h
  clear hk
  induction k with
  | zero =>
    rw [rnks] at h; unfold rnk0 at h
    rw [fill_at hv] at h
    by_cases hg : hasL goal (v : Int) = true
    · exact hasL_iff.1 hg
    · rw [if_neg hg] at h; omega
  | succ k ih =>
    have h2 := rnks_old hv (show gi (rnks o n who inn goal o.length (k + 1)) v ≤ (k : Int) by omega)
    exact ih (by rw [h2]; exact h)
end
end Go.Proofs.Ytblmcmccdeelgaa
namespace Go.Proofs.Ytblmcmccdeelgaa
open Go.RowKit

theorem OI.pop {w : World} {lo g n c : Nat} {xs : List Int} (h : OI 2 w lo (.slice (some ⟨g, 0, none⟩) (n + 1) c) xs) : OI 2 w lo (.slice (some ⟨g, 0, none⟩) n c) (xs.take n) := by
  obtain ⟨h1, h2⟩ := h
  rcases h2 with ⟨e, _⟩ | ⟨g', cap, cur, e, hb, hg, hn, hc, hs, ht⟩
  · injection e with e1; cases e1
  · injection e with e1 e2 e3
    subst e3
    have hl : (xs.take n).length = n := by rw [List.length_take]; omega
    refine ⟨by simp, .inr ⟨g', c, cur, by rw [hl, e1], hb, hg, by omega, hc, hs, ?_⟩⟩
    rw [hl, List.map_take, ← ht, List.take_take, Nat.min_eq_left (by omega)]
    simp
def cntF (ms : List Bool) : Nat := ms.countP (fun x => x == false)
theorem cntF_set {ms : List Bool} {i : Nat} (hi : i < ms.length) (h : gb ms i = false) : cntF (ms.set i true) + 1 = cntF ms := by
  unfold cntF
  rw [gb_get hi] at h
  have h1 := List.countP_set (p := fun x => x == false) (a := true) (l := ms) (i := i) hi
  have h2 : 0 < ms.countP (fun x => x == false) := List.countP_pos_iff.2 ⟨ms[i], List.getElem_mem hi, by rw [h]; rfl⟩
  rw [h1, h, if_pos (by rfl), if_neg (by decide)]
  omega

def isF : Value → Bool
  | .bool false => true
  | _ => false
/-- how many cells of block b are false -/
def mB (w : World) (b : Nat) : Nat := match w.heap[b]? with
  | some (.cells cs _ _) => cs.toList.countP isF
  | _ => 0
theorem mB_row {w : World} {lo g n : Nat} {ms : List Bool} (h : OB 4 w lo (.slice (some ⟨g, 0, none⟩) n n) ms) : mB w g = cntF ms := by
  obtain ⟨h1, h2⟩ := h
  rcases h2 with ⟨e, _⟩ | ⟨g', cap, cur, e, hb, hg, hn, hc, hs, ht⟩
  · injection e with e1; cases e1
  · injection e with e1 e2 e3
    injection e1 with e1
    injection e1 with e1
    subst e1
    have hl : cur.toList = ms.map Value.bool := by
      rw [← ht, List.take_of_length_le]
      simp at hs ⊢
      omega
    unfold mB cntF
    rw [hg]
    show cur.toList.countP isF = _
    rw [hl, List.countP_map]
    apply List.countP_congr
    intro x _
    cases x <;> simp [isF]
/-- what holds the edges from v on, within ins -/
def Bey (E : List (List Int)) (ins : List Bool) (v : Nat) (P : Nat → Prop) : Prop :=
  (∀ u : Nat, (u : Int) ∈ gl E v → gb ins u = true → P u) ∧ ∀ x u : Nat, P x → (u : Int) ∈ gl E x → gb ins u = true → P u
/-- what l1Beyond has: the marks, what is to be looked at -/
def BInv (E : List (List Int)) (ins : List Bool) (n0 v : Nat) (out : List Bool) (T : List Int) : Prop :=
  out.length = n0 ∧ T.length + cntF out ≤ n0 + 1 ∧ (∀ x ∈ T, ∃ m : Nat, x = (m : Int) ∧ m < n0) ∧ ∀ P, Bey E ins v P → (∀ u, gb out u = true → P u) ∧ ∀ m : Nat, (m : Int) ∈ T → m = v ∨ P m
theorem bInv_0 {E : List (List Int)} {ins : List Bool} {n0 v : Nat} (hv : v < n0) : BInv E ins n0 v (List.replicate n0 false) [(v : Int)] := by
  refine ⟨by simp, ?_, fun x hx => ⟨v, by simpa using hx, hv⟩, fun P _ => ⟨fun u hu => ?_, fun m hm => ?_⟩⟩
  · have : cntF (List.replicate n0 false) ≤ n0 := by unfold cntF; exact Nat.le_trans List.countP_le_length (by simp)
    simp; omega
  · unfold gb at hu
    rw [List.getD_eq_getElem?_getD, List.getElem?_replicate] at hu
    split at hu <;> simp at hu
  · have : (m : Int) = (v : Int) := by simpa using hm
    exact .inl (by omega)
section
variable {E : List (List Int)} {ins out : List Bool} {n0 v x u : Nat} {T : List Int}
theorem BInv.pop {k : Nat} (h : BInv E ins n0 v out T) (hk : T.length = k + 1) : BInv E ins n0 v out (T.take k) ∧ T.take k = T.take k ∧ ∀ P, Bey E ins v P → ∀ m : Nat, (m : Int) = gi T k → m = v ∨ P m := by
  obtain ⟨h1, h2, h3, h4⟩ := h
  refine ⟨⟨h1, by rw [List.length_take]; omega, fun x hx => h3 x (List.mem_of_mem_take hx), fun P hP => ⟨(h4 P hP).1, fun m hm => (h4 P hP).2 m (List.mem_of_mem_take hm)⟩⟩, rfl, fun P hP m hm => (h4 P hP).2 m ?_⟩
  rw [hm]
  exact gi_mem (by omega)
theorem BInv.put (h : BInv E ins n0 v out T) (hx : ∀ P, Bey E ins v P → x = v ∨ P x) (hu : u < n0) (he : (u : Int) ∈ gl E x) (hi : gb ins u = true) (ho : gb out u = false) : BInv E ins n0 v (out.set u true) (T ++ [(u : Int)]) := by
  obtain ⟨h1, h2, h3, h4⟩ := h
  have hc := cntF_set (ms := out) (i := u) (by omega) ho
  have hP : ∀ P, Bey E ins v P → P u := fun P hb => by
    rcases hx P hb with e | e
    · rw [e] at he; exact hb.1 u he hi
    · exact hb.2 x u e he hi
  refine ⟨by simpa using h1, by rw [List.length_append, List.length_singleton]; omega, fun y hy => ?_, fun P hb => ⟨fun y hy => ?_, fun m hm => ?_⟩⟩
  · rcases List.mem_append.1 hy with hy | hy
    · exact h3 y hy
    · exact ⟨u, by simpa using hy, hu⟩
  · by_cases e : y = u
    · rw [e]; exact hP P hb
    · refine (h4 P hb).1 y ?_
      unfold gb at hy ⊢
      rwa [List.getD_eq_getElem?_getD, List.getElem?_set_ne (by omega), ← List.getD_eq_getElem?_getD] at hy
  · rcases List.mem_append.1 hm with hm | hm
    · exact (h4 P hb).2 m hm
    · have : (m : Int) = (u : Int) := by simpa using hm
      have e : m = u := by omega
      rw [e]; exact .inr (hP P hb)
end

/-- an append behind a store: the heap's size as an equation of its own -/
theorem wpList_pushHB {ops : Array Oper} {rest : List Oper} {o : Oper} {a : Act} {Q : Exit → Act → World → Prop} (hgd : o.guard = none) (s x : Operand)
    (ho : o.op = .call { callee := .builtin .append, args := #[s, x], argTypes := #[27, 27] })
    (w : World) (H : Nat) (hH : w.heap.size = H) (lo : Nat) (v : Value) (xs : List Int) (hs : a.eval s = v) (hown : OI 2 w lo v xs) (y : Int) (hx : a.eval x = .slice (some ⟨H, 0, none⟩) 1 1)
    (hn : xs.length ≤ 4194304) (hlo : lo ≤ H)
    (h : ∀ v' w', OI 2 w' lo v' (xs ++ [y]) → Below lo w w' → Chg (fun z => v.ownBlock = some z) w w' → (∀ b, v'.ownBlock = some b → v.ownBlock = some b ∨ w.heap.size ≤ b) →
      wpList Try.prog ops Q rest (a.put o.dst v') w') : wpList Try.prog ops Q (o :: rest) a (w.alloc (.cells #[.int .i64 y] 2)) := by
  subst hH
  exact wpList_pushI hgd s x ho w lo v xs hs hown y hx hn hlo h
set_option maxRecDepth 100000 in
set_option maxHeartbeats 1600000 in
theorem specBeyond (A C D : Option Addr) (n0 c0 d d1 v : Nat) (E : List (List Int)) (ins : List Bool) (w : World) (B : Nat) (hB : B ≤ w.heap.size) (ha : RII w A n0 c0 E) (hi : RB w C n0 d ins) (hf : RI w D 1 d1 [(v : Int)]) (hv : v < n0) (hn : n0 ≤ 256)
    (hE : ∀ x, x < n0 → (gl E x).length ≤ 256 ∧ ∀ j, j < (gl E x).length → ∃ m : Nat, gi (gl E x) j = (m : Int) ∧ m < n0) :
    Calls Try.prog 69 #[.slice A n0 c0, .slice C n0 d, .slice D 1 d1] w fun e w' => ∃ (b : Nat) (out : List Bool), e = .returned (.slice (some ⟨b, 0, none⟩) n0 n0) ∧ OB 4 w' B (.slice (some ⟨b, 0, none⟩) n0 n0) out ∧ (out.length = n0 ∧ ∀ P, Bey E ins v P → ∀ u, gb out u = true → P u) ∧ Below B w w' := by
  have hba := Below.refl w.heap.size w
  have hsz : w.heap.size = w.heap.size := rfl
  have a1 := ha.cap; have a2 := ha.top; have i1 := hi.cap; have i2 := hi.top
  have HZ := Lib.hid hsz; clear hsz
  have H0 := Lib.hid (bInv_0 (E := E) (ins := ins) hv)
  have HE := Lib.hid hE
  clear hE
  go_enter Try.func69, Try.ntmps69
  go_wp2_with (refine wpList_makeB rfl (.tmp 13) rfl _ n0 rfl (by omega) ?_; intro w1 hown hb1; rw [HZ.out] at hown ⊢; replace hb1 := below_then hb1 hba.size hba; replace hown := hown.more (lo' := w.heap.size) (by omega); clear hba)
  have hs1 := hb1.size
  refine (l1Copy _ _ _ _ _ _ (Nat.le_refl _) (hf.keep (keeps_below hb1)) (by omega)).mono ?_; rintro e w2 ⟨v2, rfl, ho2, hb2⟩
  have hw2 := below_then hb2 hs1 hb1
  have hown2 := hown.below hb2
  replace ho2 := ho2.more (lo' := w.heap.size) hs1
  clear hown hb1 hb2
  go_wp2
  go_loopw [8] (fun t wr => ∃ (T : List Int) (out : List Bool), OI 2 wr w.heap.size t T ∧ OB 4 wr w.heap.size (.slice (some ⟨w.heap.size, 0, none⟩) n0 n0) out ∧ Hid (BInv E ins n0 v out T) ∧ Below w.heap.size w wr) (fun t wr => 2 * mB wr w.heap.size + (match t with | .slice _ n _ => n | _ => 0))
  case atStart => exact ⟨_, _, ho2, hown2, H0, hw2⟩
  case round =>
    clear ho2 hown2
    obtain ⟨wo, hwo⟩ : ∃ wo : World, wo = wr := ⟨_, rfl⟩
    obtain ⟨T, out, ho, hb, HI, hbr⟩ := hrel
    have hM := Lib.hid (mB_row hb)
    by_cases h0 : T.length = 0
    · obtain ⟨At, ct, rfl⟩ := ho.form
      rw [h0]
      go_wp2
      go_ret
      exact ⟨_, out, rfl, hb.more hB, ⟨HI.out.1, fun P hP => (HI.out.2.2.2 P hP).1⟩, hbr.mono hB⟩
    · obtain ⟨g, ct, rfl⟩ := ho.form2 (by omega)
      obtain ⟨k, hk⟩ : ∃ k, T.length = k + 1 := ⟨T.length - 1, by omega⟩
      rw [hk] at ho ⊢
      have hpop := ho.pop
      have hcell := ho.cellAt (i := k) (by omega)
      obtain ⟨x, hx, hxn⟩ := HI.out.2.2.1 _ (gi_mem (show k < T.length by omega))
      rw [hx] at hcell
      obtain ⟨p1, -, p3⟩ := HI.out.pop hk
      have HP1 := Lib.hid p1
      have HX := Lib.hid (fun P hP => p3 P hP x hx.symm)
      have hkc := OI.reads ho
      have hkc1 := hkc.cap; have hkc2 := hkc.top
      have hlT : (T.take k).length = k := by rw [List.length_take]; omega
      have HK := Lib.hid hk
      have e1 : IntKind.i64.wrap (((k + 1 : Nat) : Int) - 1) = (k : Int) := by rw [show ((k + 1 : Nat) : Int) - 1 = (k : Int) by omega]; exact IntWalk.i64_in _ (by omega)
      have e1' : IntKind.i64.wrap ((k : Int) + 1 - 1) = (k : Int) := by rw [show (k : Int) + 1 - 1 = (k : Int) by omega]; exact IntWalk.i64_in _ (by omega)
      have e2 : (0 : Int) ≤ (k : Int) := by omega
      have e3 : (k : Int) < (k : Int) + 1 := by omega
      have e4 : (k : Int) ≤ (ct : Int) := by omega
      obtain ⟨be, oe, A', n', c', hA', hce, hre⟩ := ha.at_ hxn
      have hce0 := keeps_below hbr _ _ hce
      have ra1 := hre.cap; have ra2 := hre.top
      have HR := Lib.hid hre.len
      have HB := Lib.hid (HE.out x hxn)
      have hsz := hbr.size
      generalize hT' : T.take k = T0 at *
      clear hkc h0 hk hx p1 p3 hT'
      subst hA'
      go_wp2
      go_loopw [8, 10] (fun t i wr => ∃ (T1 : List Int) (out1 : List Bool) (j : Nat), j ≤ n' ∧ i = .int .i64 (j : Int) ∧ OI 2 wr w.heap.size t T1 ∧ OB 4 wr w.heap.size (.slice (some ⟨w.heap.size, 0, none⟩) n0 n0) out1 ∧ Hid (BInv E ins n0 v out1 T1 ∧ 2 * cntF out1 + T1.length ≤ 2 * cntF out + k) ∧ Below w.heap.size w wr) (fun _ i _ => n' - (intOf i).toNat)
      case atStart => exact ⟨T0, out, 0, Nat.zero_le _, rfl, hpop, hb, Lib.hid ⟨HP1.out, by omega⟩, hbr⟩
      case round =>
        clear hpop hb hcell ho
        obtain ⟨T1, out1, j, hj, rfl, ho1, hb1, HI1, hbi⟩ := hrel
        obtain ⟨A1, c1, rfl⟩ := ho1.form
        have hsi := hbi.size
        have hM1 := Lib.hid (mB_row hb1)
        clear hce0
        have hce1 := keeps_below hbi _ _ hce
        by_cases hlt : j < n'
        · obtain ⟨bj, oj, hA2, hcj⟩ := (hre.keep (keeps_below hbi)).at_ hlt
          subst hA2
          obtain ⟨u, hu, hun⟩ := HB.out.2 j (by rw [HR.out]; exact hlt)
          have HU : Hid ((u : Int) ∈ gl E x) := Lib.hid (by rw [← hu]; exact gi_mem (by rw [HR.out]; exact hlt))
          rw [hu] at hcj
          obtain ⟨bi, oi, hC, hci⟩ := (hi.keep (keeps_below hbi)).at_ hun
          subst hC
          have HLn := Lib.hid HI1.out.1.1
          have hcu := hb1.at_ (i := u) (by rw [HLn.out]; exact hun)
          have hfz := hb1.hot (i := u) (by rw [HLn.out])
          have hll : T1.length ≤ 4194304 := by have h9 := HI1.out.1.2.1; omega
          clear hu
          cases hin : gb ins u with
          | false =>
            have HIN := Lib.hid hin
            rw [hin] at hci
            clear hin
            go_wp2
            go_roundw
            case rel => exact ⟨T1, out1, j + 1, by omega, by go_num, ho1, hb1, HI1, hbi⟩
            case measure => simp [intOf]; omega
          | true =>
            have HIN := Lib.hid hin
            rw [hin] at hci
            clear hin
            cases hou : gb out1 u with
            | true =>
              have HOU := Lib.hid hou
              rw [hou] at hcu
              clear hou
              go_wp2
              go_roundw
              case rel => exact ⟨T1, out1, j + 1, by omega, by go_num, ho1, hb1, HI1, hbi⟩
              case measure => simp [intOf]; omega
            | false =>
              have HOU := Lib.hid hou
              rw [hou] at hcu
              clear hou
              have hoT := row_chg ho1 (Chg.set (w := wr) ⟨w.heap.size, u, none⟩ (.bool true)) (fun z hz e => own_ne ho1 hb1 (by decide) z hz (by have h3 : z = w.heap.size := e; rw [h3]; rfl))
              have hbS := hb1.set_ (i := u) (by rw [HLn.out]) true
              have hwS := below_set (p := ⟨w.heap.size, u, none⟩) (u := .bool true) (Nat.le_refl _) hbi
              have HP := Lib.hid (HI1.out.1.put HX.out hun HU.out HIN.out HOU.out)
              have HC := Lib.hid (cntF_set (ms := out1) (i := u) (by rw [HLn.out]; exact hun) HOU.out)
              go_wp2_with (at_builtin; refine wpList_pushHB rfl (.tmp 61) (.tmp 63) rfl (wr.setCell ⟨w.heap.size, u, none⟩ (.bool true)) wr.heap.size (by simp) w.heap.size (.slice A1 T1.length c1) T1 rfl hoT (u : Int) rfl hll hsi ?_; intro t2 w3 ho3 hb3 hc3 hat3)
              have hbE := row_chg hbS hc3 (fun z hz e => own_ne hoT hbS (by decide) z e hz)
              have hwE := hwS.trans hb3
              go_roundw
              case rel => exact ⟨T1 ++ [(u : Int)], out1.set u true, j + 1, by omega, by go_num, ho3, hbE, Lib.hid ⟨HP.out, by have h8 := HI1.out.2; have h9 := HC.out; rw [List.length_append, List.length_singleton]; omega⟩, hwE⟩
              case measure => simp [intOf]; omega
        · obtain rfl : j = n' := by omega
          go_wp2
          refine ⟨⟨T1, out1, ho1, hb1, Lib.hid HI1.out.1, hbi⟩, ?_⟩
          have h8 := HI1.out.2
          have h9 := hM1.out
          have h10 := hM.out
          rw [h9, h10]
          show 2 * cntF out1 + T1.length < 2 * cntF out + (k + 1)
          omega
end Go.Proofs.Ytblmcmccdeelgaa
namespace Go.Proofs.Ytblmcmccdeelgaa
open Go.RowKit

/-- a slice of bytes that reads as a list -/
def RY (w : World) (A : Option Addr) (n c : Nat) (xs : List Int) : Prop :=
  xs.length = n ∧ (n ≤ c ∧ c ≤ 9223372036854775807) ∧ (∀ x ∈ xs, 0 ≤ x ∧ x ≤ 255) ∧ ∀ i, i < n → ∃ b off, A = some ⟨b, off, none⟩ ∧ w.cell? ⟨b, off + i, none⟩ = some (.int .u8 (gi xs i))
section
variable {w w' : World} {A : Option Addr} {n c : Nat} {xs : List Int}
theorem RY.cap (h : RY w A n c xs) : n ≤ c := h.2.1.1
theorem RY.top (h : RY w A n c xs) : c ≤ 9223372036854775807 := h.2.1.2
theorem RY.at_ (h : RY w A n c xs) {i : Nat} (hi : i < n) : ∃ b off, A = some ⟨b, off, none⟩ ∧ w.cell? ⟨b, off + i, none⟩ = some (.int .u8 (gi xs i)) ∧ 0 ≤ gi xs i ∧ gi xs i ≤ 255 := by
  obtain ⟨b, off, e, hc⟩ := h.2.2.2 i hi
  exact ⟨b, off, e, hc, h.2.2.1 _ (gi_mem (by rw [h.1]; exact hi))⟩
theorem RY.keep (h : RY w A n c xs) (k : Keeps w w') : RY w' A n c xs :=
  ⟨h.1, h.2.1, h.2.2.1, fun i hi => by obtain ⟨b, off, e, hc⟩ := h.2.2.2 i hi; exact ⟨b, off, e, k _ _ hc⟩⟩
theorem RY.of_nil : RY w none 0 0 [] := ⟨rfl, ⟨by omega, by omega⟩, by simp, fun i hi => absurd hi (by omega)⟩
theorem RY.of_cells {x : Addr} {len cap : Nat} {zs : List Int} (hl : len ≤ cap) (hm : cap ≤ maxLen) (hz : zs.length = cap)
    (hcell : ∀ i, i < zs.length → w.cell? (x.add i) = some (.int .u8 (zs.getD i 0))) (hr : ∀ z ∈ zs, 0 ≤ z ∧ z ≤ 255) : RY w (some x) len cap (zs.take len) := by
  refine ⟨by rw [List.length_take]; omega, ⟨hl, by unfold maxLen at hm; omega⟩, fun z hz => hr z (List.mem_of_mem_take hz), fun i hi => ?_⟩
  obtain ⟨b, off, spot⟩ := x
  have h0 := hcell 0 (by omega)
  have hs : spot = none := by simpa [Addr.add] using World.cell?_spot h0
  subst hs
  refine ⟨b, off, rfl, ?_⟩
  have hc := hcell i (by omega)
  rw [gi_take hi]
  rw [show (⟨b, off, none⟩ : Addr).add i = ⟨b, off + i, none⟩ from by unfold Addr.add; split <;> simp_all] at hc
  exact hc
end

theorem chg_drewN {S : Nat → Prop} {w w' : World} (h : Chg S w w') (q : Nat) : Chg S w (w'.drewN q) := ⟨h.os, h.tape, h.output, h.size, h.block⟩
/-- the dice lie at block b in w; what they were made of is old in w0 -/
def DiceAt (w0 w : World) (b : Nat) : Prop :=
  ∃ A n c l i h, RY w0 A n c l ∧ Box w b 47 #[.slice A n c, .int .i64 i, .int .u64 h] ∧ (0 ≤ i ∧ i ≤ n ∧ n ≤ 4096) ∧ w0.heap.size ≤ b ∧ Below w0.heap.size w0 w
theorem DiceAt.on {w0 w w' : World} {b : Nat} (h : DiceAt w0 w b) (hb : Below w.heap.size w w') : DiceAt w0 w' b := by
  obtain ⟨A, n, c, l, i, x, h1, h2, h3, h4, h5⟩ := h
  exact ⟨A, n, c, l, i, x, h1, h2.below hb h2.lt, h3, h4, h5.trans (hb.mono h5.size)⟩
theorem DiceAt.chg {w0 w w' : World} {b : Nat} {S : Nat → Prop} (h : DiceAt w0 w b) (hc : Chg S w w') (hS : ∀ x, S x → b < x) : DiceAt w0 w' b := by
  obtain ⟨A, n, c, l, i, x, h1, h2, h3, h4, h5⟩ := h
  exact ⟨A, n, c, l, i, x, h1, (hc.block b h2.lt (fun hs => by have := hS b hs; omega)).trans h2, h3, h4, h5.trans (hc.below h5.size (fun x hx => by have := hS x hx; omega))⟩
theorem DiceAt.lt {w0 w : World} {b : Nat} (h : DiceAt w0 w b) : b < w.heap.size := by
  obtain ⟨A, n, c, l, i, x, h1, h2, h3, h4, h5⟩ := h
  exact h2.lt
theorem DiceAt.lo {w0 w : World} {b : Nat} (h : DiceAt w0 w b) : w0.heap.size ≤ b := by
  obtain ⟨A, n, c, l, i, x, h1, h2, h3, h4, h5⟩ := h
  exact h4
theorem DiceAt.bel {w0 w : World} {b : Nat} (h : DiceAt w0 w b) : Below w0.heap.size w0 w := by
  obtain ⟨A, n, c, l, i, x, h1, h2, h3, h4, h5⟩ := h
  exact h5

/-- a throw -/
def Threw (w0 w : World) (b : Nat) (k : Int) (e : Ending) (w' : World) : Prop := ∃ x, e = .returned (.int .i64 x) ∧ (0 ≤ x ∧ x < k) ∧ DiceAt w0 w' b ∧ Chg (fun y => y = b) w w'

theorem and24 (x : Int) : 0 ≤ bits .and .u64 x 16777215 ∧ bits .and .u64 x 16777215 ≤ 16777215 := by
  show 0 ≤ IntKind.u64.wrap ((BitVec.ofInt 64 x &&& BitVec.ofInt 64 16777215).toNat : Int) ∧ IntKind.u64.wrap ((BitVec.ofInt 64 x &&& BitVec.ofInt 64 16777215).toNat : Int) ≤ 16777215
  have h : (BitVec.ofInt 64 x &&& BitVec.ofInt 64 16777215).toNat ≤ 16777215 := by
    rw [BitVec.toNat_and]
    exact Nat.and_le_right
  rw [IntWalk.u64_in _ (by omega)]
  omega

set_option maxRecDepth 100000 in
set_option maxHeartbeats 400000 in
theorem below (w0 w : World) (b : Nat) (k : Int) (hd : DiceAt w0 w b) (hk : 1 ≤ k) :
    Calls Try.prog 21 #[.pointer (some ⟨b, 0, none⟩), .int .i64 k] w (Threw w0 w b k) := by
  obtain ⟨A, n, c, l, i, h, hy, hbx, ⟨hi0, hi1, hn⟩, h4, h5⟩ := hd
  obtain ⟨j, rfl⟩ := Int.eq_ofNat_of_zero_le hi0
  have hjn : j ≤ n := by omega
  have c2 := hbx.cell 2
  have f2 := hbx.hot 2
  simp only [List.getElem?_toArray, List.getElem?_cons_zero, List.getElem?_cons_succ] at c2
  go_enter Try.func21, Try.ntmps21
  go_wp2_with fail
  generalize IntKind.u64.wrap (IntKind.u64.wrap (h * 6364136223846793005) + 1442695040888963407) = h'
  have hx := and24 (h' / 8589934592)
  generalize bits .and .u64 (h' / 8589934592) 16777215 = x at *
  rw [show wrap64 x = x by unfold wrap64; omega]
  have hb1 := hbx.set_ 2 (.int .u64 h')
  have hg1 : Chg (fun y => y = b) w (w.setCell ⟨b, 2, none⟩ (.int .u64 h')) := Chg.set ⟨b, 2, none⟩ _
  have hw1 : Below w0.heap.size w0 (w.setCell ⟨b, 2, none⟩ (.int .u64 h')) := h5.setCell h4 _
  clear c2 f2 h5 hbx hi0 hi1
  generalize w.setCell ⟨b, 2, none⟩ (.int .u64 h') = w1 at *
  have c0 := hb1.cell 0; have c1 := hb1.cell 1
  have f1 := hb1.hot 1
  simp only [List.setIfInBounds_toArray, List.set_cons_succ, List.set_cons_zero, List.getElem?_toArray, List.getElem?_cons_zero, List.getElem?_cons_succ] at c0 c1
  have hk0 : ¬ k = 0 := by omega
  by_cases hlt : j < n
  · obtain ⟨b', off, rfl, hc, hr⟩ := (hy.keep (keeps_below hw1)).at_ hlt
    generalize gi l j = y at *
    have e1 : wrap64 (x + y) = x + y := by unfold wrap64; omega
    have e2 : wrap64 y = y := by unfold wrap64; omega
    go_quiet (fail)
    go_wp2_with fail
    go_quiet (fail)
    go_wp2_with fail
    go_ret
    have hm := Int.emod_nonneg (x + y) hk0
    have hm2 := Int.emod_lt_of_pos (x + y) (show 0 < k by omega)
    have hb2 := hb1.set_ 1 (.int .i64 ((j : Int) + 1))
    simp only [List.setIfInBounds_toArray, List.set_cons_succ, List.set_cons_zero] at hb2
    exact ⟨_, rfl, ⟨hm, hm2⟩, ⟨_, n, c, l, (j : Int) + 1, h', hy, hb2, ⟨by omega, by omega, hn⟩, h4, (below_drewN hw1 _).setCell h4 _⟩, Chg.trans (chg_drewN hg1 _) (Chg.set (w := w1.drewN _) ⟨b, 1, none⟩ _) (fun _ h => h) (fun _ h => h)⟩
  · go_quiet (fail)
    go_wp2_with fail
    go_ret
    have hm := Int.emod_nonneg x hk0
    have hm2 := Int.emod_lt_of_pos x (show 0 < k by omega)
    simp only [List.setIfInBounds_toArray, List.set_cons_succ, List.set_cons_zero] at hb1
    exact ⟨_, rfl, ⟨hm, hm2⟩, ⟨_, n, c, l, (j : Int), h', hy, hb1, ⟨by omega, by omega, hn⟩, h4, below_drewN hw1 _⟩, chg_drewN hg1 _⟩

set_option maxRecDepth 100000 in
set_option maxHeartbeats 400000 in
theorem roll (A : Option Addr) (n c : Nat) (l : List Int) (sd : Int) (w : World) (hy : RY w A n c l) (hn : n ≤ 4096) :
    Calls Try.prog 5 #[.slice A n c, .int .u64 sd] w fun e w' => ∃ b, e = .returned (.pointer (some ⟨b, 0, none⟩)) ∧ DiceAt w w' b := by
  have b1 := hy.cap; have b2 := hy.top
  go_enter Try.func5, Try.ntmps5
  go_wp2_with fail
  generalize IntKind.u64.wrap _ = h0
  go_loopw [6] (fun i wr => ∃ (j : Nat) (h : Int), j ≤ n ∧ i = .int .i64 j ∧ Box wr w.heap.size 47 #[.slice A n c, .int .i64 0, .int .u64 h] ∧ Below w.heap.size w wr) (fun i _ => n - (intOf i).toNat)
  case atStart => exact ⟨0, _, Nat.zero_le _, rfl, Box.new _ _ _, below_alloc (Nat.le_refl _) (Below.refl _ _)⟩
  case round =>
    obtain ⟨j, h, hj, rfl, hbx, hb⟩ := hrel
    by_cases hlt : j < n
    · obtain ⟨b', off, rfl, hc, hr⟩ := (hy.keep (keeps_below hb)).at_ hlt
      have c2 := hbx.cell 2
      have f2 := hbx.hot 2
      simp only [List.getElem?_toArray, List.getElem?_cons_zero, List.getElem?_cons_succ] at c2
      go_wp2_with fail
      go_still_tail 15, (by kernel_rfl)
      change wpList _ _ _ _ _ wr.drew
      generalize IntKind.u64.wrap (IntKind.u64.wrap (IntKind.u64.wrap (h * 1099511628211) + IntKind.u64.wrap (gi l j)) + 3) = h1
      replace hbx : Box wr.drew _ _ _ := hbx
      replace hb : Below _ _ wr.drew := Below.drew hb
      replace f2 : wr.drew.frozen? _ = false := f2
      replace c2 : wr.drew.cell? _ = some _ := c2
      generalize wr.drew = w2 at *
      go_wp2
      go_roundw
      case rel =>
        have hb2 := hbx.set_ 2 (.int .u64 h1)
        simp only [List.setIfInBounds_toArray, List.set_cons_succ, List.set_cons_zero] at hb2
        exact ⟨j + 1, h1, by omega, by go_num, hb2, hb.setCell (Nat.le_refl _) _⟩
      case measure => simp [intOf]; omega
    · go_wp2
      go_ret
      exact ⟨_, rfl, _, n, c, l, 0, h, hy, hbx, ⟨by omega, by omega, hn⟩, Nat.le_refl _, hb⟩
end Go.Proofs.Ytblmcmccdeelgaa
namespace Go.Proofs.Ytblmcmccdeelgaa
open Go.RowKit

theorem setB_snoc {xs : List Int} {k : Int} (h : setB xs k = true) (h0 : 0 ≤ k) : setB (xs ++ [k]) (k + 1) = true := by
  rw [setB_true] at h ⊢
  have get : ∀ j, j < xs.length → gi (xs ++ [k]) j = gi xs j := fun j hj => by unfold gi; rw [List.getD_eq_getElem?_getD, List.getD_eq_getElem?_getD, List.getElem?_append_left hj]
  intro i hi
  rw [List.length_append, List.length_singleton] at hi
  by_cases e : i < xs.length
  · have := h i e
    unfold setAt at *
    rw [get i e]
    refine ⟨this.1, by omega, fun h0 => ?_⟩
    rw [get (i - 1) (by omega)]
    exact this.2.2 h0
  · obtain rfl : i = xs.length := by omega
    unfold setAt
    rw [show gi (xs ++ [k]) xs.length = k by simp [gi]]
    refine ⟨h0, by omega, fun h0 => ?_⟩
    rw [get (xs.length - 1) (by omega)]
    exact (h (xs.length - 1) (by omega)).2.1
theorem setB_wide {xs : List Int} {k m : Int} (h : setB xs k = true) (hm : k ≤ m) : setB xs m = true := by
  rw [setB_true] at h ⊢
  exact fun i hi => ⟨(h i hi).1, by have := (h i hi).2.1; omega, (h i hi).2.2⟩
theorem setB_none (n : Int) : setB [] n = true := setB_true.2 (by simp)

/-- a set by dice -/
def SetBy (w0 w : World) (b : Nat) (n : Int) (e : Ending) (w' : World) : Prop :=
  ∃ v xs, e = .returned v ∧ setB xs n = true ∧ OI 2 w' w.heap.size v xs ∧ DiceAt w0 w' b ∧ Chg (fun y => y = b) w w'
theorem chg_then {b : Nat} {w w1 w2 : World} (h : Chg (fun y => y = b) w w1) (k : Chg (fun y => y = b) w1 w2) : Chg (fun y => y = b) w w2 := h.trans k (fun _ h => h) (fun _ h => h)
theorem chg_app {b lo : Nat} {u : Value} {w w1 w2 : World} (h : Chg (fun y => y = b) w w1) (hlo : w.heap.size ≤ lo) (k : Chg (fun z => u.ownBlock = some z) w1 w2) (hu : ∀ z, u.ownBlock = some z → lo ≤ z) : Chg (fun y => y = b) w w2 :=
  ⟨k.os.trans h.os, k.tape.trans h.tape, k.output.trans h.output, Nat.le_trans h.size k.size, fun x hx hne =>
    (k.block x (Nat.lt_of_lt_of_le hx h.size) (fun hs => by have := hu x hs; omega)).trans (h.block x hx hne)⟩

set_option maxRecDepth 100000 in
set_option maxHeartbeats 400000 in
theorem w6Set (w0 w : World) (b : Nat) (n : Int) (hd : DiceAt w0 w b) (h0 : 0 ≤ n) (hn : n ≤ 256) :
    Calls Try.prog 7 #[.pointer (some ⟨b, 0, none⟩), .int .i64 n] w (SetBy w0 w b n) := by
  obtain ⟨m, rfl⟩ := Int.eq_ofNat_of_zero_le h0
  have hm : m ≤ 256 := by omega
  clear h0 hn
  go_enter Try.func7, Try.ntmps7
  go_wp2
  have hem := OI.empty (E := 2) (w := w) (B := w.heap.size) (Nat.le_refl _)
  have hal : Below w.heap.size w (w.alloc (.cells #[] 2)) := below_alloc (Nat.le_refl _) (Below.refl _ _)
  go_loopw [5, 6] (fun v i wr => ∃ (k : Nat) (xs : List Int), k ≤ m ∧ i = .int .i64 k ∧ xs.length ≤ k ∧ setB xs (k : Int) = true ∧ OI 2 wr w.heap.size v xs ∧ DiceAt w0 wr b ∧ Chg (fun y => y = b) w wr) (fun _ i _ => m - (intOf i).toNat)
  case atStart => exact ⟨0, [], Nat.zero_le _, rfl, Nat.le_refl _, setB_none _, hem, hd.on hal, (Chg.refl _ _).alloc _⟩
  case round =>
    obtain ⟨k, xs, hk, rfl, hxl, hs, ho, hdr, hc⟩ := hrel
    have HS := Lib.hid hs
    have hsz := hc.size
    clear hs
    by_cases hlt : k < m
    · go_wp2_with fail
      refine (below w0 _ b 3 hdr (by omega)).mono ?_; rintro e w1 ⟨x, rfl, hx, hd1, hc1⟩
      have hc2 := chg_then hc hc1
      have ho1 := ho.chg hc1 (fun z hz hs => by have h1 := (ho.lt z hz).1; have h2 := hd.lt; have h3 : z = b := hs; omega)
      have hsz1 := hc2.size
      by_cases h3 : x = 0
      · subst h3
        go_wp2_with (refine wpList_pushI rfl (.tmp 16) (.tmp 18) rfl _ w.heap.size _ xs rfl ho1 _ rfl (by omega) hsz1 ?_; intro v2 w2 ho2 hb2 hch2 hat2)
        go_wp2
        go_roundw
        case rel => exact ⟨k + 1, xs ++ [(k : Int)], by omega, by go_num, by rw [List.length_append, List.length_singleton]; omega, setB_snoc HS.out (by omega), ho2, hd1.chg hch2 (fun z hz => by have h1 := (ho1.lt z hz).1; have h2 := hd.lt; omega), chg_app hc2 (Nat.le_refl _) hch2 (fun z hz => (ho1.lt z hz).1)⟩
        case measure => simp [intOf]; omega
      · have hx3 : (x == 0) = false := by simp [h3]
        clear h3
        go_wp2
        go_roundw
        case rel => exact ⟨k + 1, xs, by omega, by go_num, by omega, setB_wide HS.out (by omega), ho1, hd1, hc2⟩
        case measure => simp [intOf]; omega
    · obtain rfl : k = m := by omega
      go_wp2
      go_ret
      exact ⟨_, xs, rfl, HS.out, ho, hdr, hc⟩
set_option maxHeartbeats 400000 in
theorem likeInts (A B : Option Addr) (n m c d : Nat) (xs ys : List Int) (w : World) (ha : RI w A n c xs) (hb : RI w B m d ys) :
    Calls Try.prog 17 #[.slice A n c, .slice B m d] w fun e w' => e = .returned (.bool (eqL xs ys)) ∧ Qt w w' := by
  have b1 := ha.cap; have b2 := ha.top; have b3 := hb.cap; have b4 := hb.top
  by_cases hnm : n = m
  · subst hnm
    have hnn : ((n : Int) != (n : Int)) = false := by simp
    go_enter Try.func17, Try.ntmps17
    go_wp2
    go_loopw [5] (fun i wr => ∃ k : Nat, k ≤ n ∧ i = .int .i64 k ∧ (∀ j, j < k → gi xs j = gi ys j) ∧ ∃ q, wr = w.drewN q) (fun i _ => n - (intOf i).toNat)
    case atStart => exact ⟨0, Nat.zero_le _, rfl, by omega, 0, rfl⟩
    case round =>
      obtain ⟨k, hk, rfl, hall, q, rfl⟩ := hrel
      by_cases hlt : k < n
      · obtain ⟨b, off, rfl, hc1⟩ := ha.at_ hlt
        obtain ⟨b', off', rfl, hc2⟩ := hb.at_ hlt
        have hki : (k : Int) < (n : Int) := by omega
        have hk0 : (0 : Int) ≤ (k : Int) := by omega
        by_cases he : gi xs k = gi ys k
        · have H := Lib.hid he
          have hne : (gi xs k != gi ys k) = false := by simp [he]
          clear he
          go_wp2
          go_quiet (fail)
          go_wp2
          go_roundw
          case rel => exact ⟨k + 1, by omega, by go_num, all_succ hall H.out, _, rfl⟩
          case measure => simp [intOf]; omega
        · have H := Lib.hid he
          have hne : (gi xs k != gi ys k) = true := by simp [he]
          clear he
          go_wp2
          go_quiet (fail)
          go_wp2
          go_ret
          exact ⟨ret_b (eqL_ne H.out).symm, Qt.drew2 _ _⟩
      · go_wp2
        go_ret
        obtain rfl : k = n := by omega
        exact ⟨ret_b (eqL_of ha.1 hb.1 hall).symm, _, rfl⟩
  · have hnn : ((n : Int) != (m : Int)) = true := by simp; omega
    have H := Lib.hid hnm
    clear hnm
    go_enter Try.func17, Try.ntmps17
    go_wp2
    go_ret
    exact ⟨ret_b (eqL_len (by rw [ha.1, hb.1]; exact H.out)).symm, Qt.refl _⟩


end Go.Proofs.Ytblmcmccdeelgaa
