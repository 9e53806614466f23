/- Plans: noPlan, firstMoves, l15Least. -/
import Derived.Test.YtngadlpfheakiaaGreat
import Derived.Test.YtngadlpfheakiaaApp
namespace Go.Proofs.Ytngadlpfheakiaa
open Go.RowKit

theorem infoI2 : (Try.prog.info? 2).map (fun i => (i.zero, i.size, i.bytes)) = some (some (.int .i64 0), 1, 8) := by kernel_rfl
set_option maxRecDepth 100000 in
theorem wpList_makeI {ops : Array Oper} {rest : List Oper} {o : Oper} {a : Act} {Q : Exit → Act → World → Prop} (hgd : o.guard = none) (s : Operand) (ho : o.op = .makeSlice 27 s s)
    (w : World) (n : Nat) (hs : a.eval s = .int .i64 n) (hn : n ≤ 1048576)
    (h : ∀ w', OI 2 w' w.heap.size (.slice (some ⟨w.heap.size, 0, none⟩) n n) (List.replicate n 0) → Below w.heap.size w w' → wpList Try.prog ops Q rest (a.put o.dst (.slice (some ⟨w.heap.size, 0, none⟩) n n)) w') : wpList Try.prog ops Q (o :: rest) a w := by
  obtain ⟨i0, hi0, hz0, hz1, hz2⟩ := info_parts infoI2
  refine wpList_make_full w hgd s s 27 ho w.heap.size 2 i0 (.int .i64 0) 1 Try.underlying27 hi0 hz0 hz1 .i64 .i64 _ _ n hs hs rfl rfl (by rw [hz2]; omega) (by unfold maxLen; omega) (Nat.le_refl _) ?_
  intro w1 hown hgrow
  exact h w1 (OI.made hown rfl) ((Below.refl _ _).grown hgrow (Nat.le_refl _) (by simp))

/-- the list of a function's values, those from k on still d -/
def fillUp (f : Nat → Int) (n : Nat) (g : Nat → Int) (k : Nat) : List Int := (List.range n).map fun i => if i < k then f i else g i
theorem fillUp_len (f g : Nat → Int) (n k : Nat) : (fillUp f n g k).length = n := by simp [fillUp]
theorem fillUp_at {f g : Nat → Int} {n k i : Nat} (h : i < n) : gi (fillUp f n g k) i = if i < k then f i else g i := by
  rw [gi_get (by rw [fillUp_len]; exact h)]
  simp [fillUp]
theorem fillUp_put {f g : Nat → Int} {n k : Nat} (h : k < n) : (fillUp f n g k).set k (f k) = fillUp f n g (k + 1) := by
  refine gi_ext (by simp [fillUp_len]) fun j hj => ?_
  rw [List.length_set, fillUp_len] at hj
  rw [gi_set (by rw [fillUp_len]; exact h), fillUp_at hj, fillUp_at hj]
  by_cases e : k = j
  · subst e; rw [if_pos rfl, if_pos (by omega)]
  · rw [if_neg e]
    by_cases e2 : j < k
    · rw [if_pos e2, if_pos (by omega)]
    · rw [if_neg e2, if_neg (by omega)]
theorem fillUp_same {f g : Nat → Int} {n k : Nat} (h : f k = g k) : fillUp f n g (k + 1) = fillUp f n g k := by
  refine gi_ext (by simp [fillUp_len]) fun j hj => ?_
  rw [fillUp_len] at hj
  rw [fillUp_at hj, fillUp_at hj]
  by_cases e : k = j
  · subst e; rw [if_pos (by omega), if_neg (by omega), h]
  · by_cases e2 : j < k
    · rw [if_pos e2, if_pos (by omega)]
    · rw [if_neg e2, if_neg (by omega)]
def fill (f : Nat → Int) (n : Nat) : List Int := (List.range n).map f
theorem fill_len (f : Nat → Int) (n : Nat) : (fill f n).length = n := by simp [fill]
theorem fill_at {f : Nat → Int} {n i : Nat} (h : i < n) : gi (fill f n) i = f i := by
  rw [gi_get (by rw [fill_len]; exact h)]; simp [fill]
theorem fillUp_zero (f g : Nat → Int) (n : Nat) : fillUp f n g 0 = fill g n := by unfold fillUp fill; exact List.map_congr_left fun i _ => by simp
theorem fillUp_full (f g : Nat → Int) (n : Nat) : fillUp f n g n = fill f n := by
  unfold fillUp fill
  exact List.map_congr_left fun i hi => by rw [if_pos (List.mem_range.1 hi)]
theorem fill_zeros (n : Nat) : List.replicate n 0 = fill (fun _ => 0) n := by
  unfold fill
  induction n with
  | zero => rfl
  | succ n ih => rw [List.range_succ, List.map_append, ← ih, List.replicate_succ']; rfl
theorem fill_succ (f : Nat → Int) (n : Nat) : fill f (n + 1) = fill f n ++ [f n] := by
  unfold fill
  rw [List.range_succ, List.map_append]; rfl
def negL (n : Nat) : List Int := fill (fun _ => -1) n

set_option maxRecDepth 100000 in
set_option maxHeartbeats 400000 in
theorem noPlan (A0 A1 : Option Addr) (n0 c0 n1 c1 : Nat) (w : World) (B : Nat) (hB : B ≤ w.heap.size) (hn : n0 ≤ 1048576) :
    Calls Try.prog 46 #[.agg #[.slice A0 n0 c0, .slice A1 n1 c1]] w fun e w' => ∃ v, e = .returned v ∧ OI 2 w' B v (negL n0) ∧ Below B w w' := by
  have q0 := (Box.new w 30 #[.slice A0 n0 c0, .slice A1 n1 c1]).d0
  have hba : Below w.heap.size w (w.alloc (.cells #[.slice A0 n0 c0, .slice A1 n1 c1] 30)) := below_alloc (Nat.le_refl _) (Below.refl _ _)
  have hsz : (w.alloc (.cells #[.slice A0 n0 c0, .slice A1 n1 c1] 30)).heap.size = w.heap.size + 1 := by simp
  have HZ := Lib.hid hsz; clear hsz
  go_enter Try.func46, Try.ntmps46
  go_wp2_with (refine wpList_makeI rfl (.tmp 7) rfl _ n0 rfl hn ?_; intro w1 hown hb1; rw [HZ.out] at hown ⊢; replace hb1 := below_then hb1 hba.size hba; replace hown := hown.more (lo' := w.heap.size) (by omega); clear hba q0)
  go_loopw [11] (fun i wr => ∃ k : Nat, k ≤ n0 ∧ i = .int .i64 k ∧ OI 2 wr w.heap.size (.slice (some ⟨w.heap.size + 1, 0, none⟩) n0 n0) (fillUp (fun _ => -1) n0 (fun _ => 0) k) ∧ Below w.heap.size w wr) (fun i _ => n0 - (intOf i).toNat)
  case atStart => exact ⟨0, Nat.zero_le _, rfl, by rw [fillUp_zero, ← fill_zeros]; exact hown, hb1⟩
  case round =>
    obtain ⟨k, hk, rfl, ho, hbr⟩ := hrel
    by_cases hlt : k < n0
    · have hcm := ho.cellAt (i := k) (by rw [fillUp_len]; exact hlt)
      have hfz := ho.hot (i := k) (by rw [fillUp_len])
      have HX := Lib.hid (fillUp_put (f := fun _ => -1) (g := fun _ => 0) hlt)
      have HO := Lib.hid ho
      clear ho
      go_wp2
      go_roundw
      case rel => exact ⟨k + 1, by omega, by go_num, by rw [← HX.out]; exact HO.out.set_ (by rw [fillUp_len]) (-1), below_set (by show w.heap.size ≤ w.heap.size + 1; omega) hbr⟩
      case measure => simp [intOf]; omega
    · obtain rfl : k = n0 := by omega
      have HE := Lib.hid (fillUp_full (fun _ => -1) (fun _ => 0) k)
      go_wp2
      go_ret
      exact ⟨_, rfl, by unfold negL; rw [← HE.out]; exact ho.more hB, hbr.mono hB⟩

/-! ### the first successor that is allowed -/
def firstU (al : Nat → Bool) (ns : List Int) : Nat → Int
  | 0 => -1
  | k + 1 => if firstU al ns k < 0 then (if al (gi ns k).toNat = true then gi ns k else -1) else firstU al ns k
theorem firstU_none {al : Nat → Bool} {ns : List Int} : ∀ {k : Nat}, (∀ j, j < k → al (gi ns j).toNat = false) → firstU al ns k = -1
  | 0, _ => rfl
  | k + 1, h => by
    rw [firstU, if_pos (by rw [firstU_none fun j hj => h j (by omega)]; omega), h k (by omega)]
    rfl
theorem firstU_hit {al : Nat → Bool} {ns : List Int} {k m : Nat} (hm : gi ns k = (m : Int)) (h1 : al m = true) (h : ∀ j, j < k → al (gi ns j).toNat = false) : ∀ {n : Nat}, k < n → firstU al ns n = (m : Int)
  | 0, hn => absurd hn (by omega)
  | n + 1, hn => by
    by_cases e : k = n
    · subst e
      rw [firstU, if_pos (by rw [firstU_none h]; omega), hm]
      simp [h1]
    · rw [firstU, firstU_hit hm h1 h (show k < n by omega), if_neg (by omega)]
def leastV (o : List Int) (n : List (List Int)) (who : Int) (ins : List Bool) (al : Nat → Nat → Bool) (v : Nat) : Int := if gb ins v = true ∧ gi o v = who then firstU (al v) (gl n v) (gl n v).length else -1
def planL (o : List Int) (n : List (List Int)) (who : Int) (ins : List Bool) (al : Nat → Nat → Bool) : List Int := fill (leastV o n who ins al) o.length

set_option maxRecDepth 100000 in
set_option maxHeartbeats 1600000 in
theorem firstMoves (al : Nat → Nat → Bool) (f : FuncId) (cap : Array Value) (A0 A1 D : Option Addr) (n0 c0 n1 c1 m d : Nat) (o : List Int) (n : List (List Int)) (who : Int) (ms : List Bool) (w : World) (B : Nat) (hB : B ≤ w.heap.size) (ha : RI w A0 n0 c0 o) (hb : RII w A1 n1 c1 n) (hm : RB w D m d ms) (hf : fineAr o n) (hml : m = n0)
    (hcf : ∀ (args : Array Value) (w : World), (callFunc f args).run Try.prog w = .ok (.enter f args) w)
    (hk : ∀ (w' : World) (v u : Nat), Below w.heap.size w w' → v < n0 → u < n0 → Calls Try.prog f (#[.int .i64 (v : Int), .int .i64 (u : Int)] ++ cap) w' fun e w'' => e = .returned (.bool (al v u)) ∧ Below w'.heap.size w' w'') :
    Calls Try.prog 66 #[.agg #[.slice A0 n0 c0, .slice A1 n1 c1], .int .i64 who, .slice D m d, .func (.func f) #[] cap] w fun e w' => ∃ v, e = .returned v ∧ OI 2 w' B v (planL o n who ms al) ∧ Below B w w' := by
  have HK := Lib.hid hk; have HML := Lib.hid hml
  clear hk hml
  have b1 := ha.cap; have b2 := ha.top; have b3 := hb.cap; have b4 := hb.top; have b5 := hm.cap; have b6 := hm.top
  have HL := Lib.hid ha.len; have HM := Lib.hid hb.len
  have hn0 : n0 ≤ 1048576 := by have := hf.2.1; rw [HL.out] at this; omega
  have h01 : n1 = n0 := by rw [← HM.out, hf.2.2.1, HL.out]
  have HF := Lib.hid hf
  clear hf
  have H01 := Lib.hid h01; clear h01
  have hba : Below w.heap.size w (w.alloc (.cells #[.slice A0 n0 c0, .slice A1 n1 c1] 30)) := below_alloc (Nat.le_refl _) (Below.refl _ _)
  have bx := Box.new w 30 #[.slice A0 n0 c0, .slice A1 n1 c1]
  have q0 := bx.d0; have q1 := bx.d1
  go_enter Try.func66, Try.ntmps66
  go_wp2_with fail
  refine (noPlan _ _ _ _ _ _ _ _ (Nat.le_refl _) hn0).mono ?_; rintro e w1 ⟨v1, rfl, ho1, hb1'⟩
  have hb1 := below_then hb1' hba.size hba
  have bx1 := bx.below hb1' bx.lt
  have hneg : (negL n0).length = n0 := fill_len _ _
  have hn0p : 0 < n0 := by have := HF.out.1; rw [HL.out] at this; omega
  obtain ⟨g, cg, hv1⟩ : ∃ g cg, v1 = .slice (some ⟨g, 0, none⟩) n0 cg := by
    rcases ho1.2 with ⟨_, hn⟩ | ⟨g, cap', cur, rfl, _⟩
    · omega
    · exact ⟨g, cap', by rw [hneg]⟩
  subst hv1
  replace ho1 := ho1.more (lo' := w.heap.size + 1) (by simp)
  have r0 := bx1.d0; have r1 := bx1.d1
  clear hba bx q0 q1 hneg
  go_wp2
  go_loopw [19] (fun i wr => ∃ k : Nat, k ≤ n1 ∧ i = .int .i64 k ∧ OI 2 wr (w.heap.size + 1) (.slice (some ⟨g, 0, none⟩) n0 cg) (fillUp (leastV o n who ms al) n0 (fun _ => -1) k) ∧ Box wr w.heap.size 30 #[.slice A0 n0 c0, .slice A1 n1 c1] ∧ Below w.heap.size w wr) (fun i _ => n1 - (intOf i).toNat)
  case atStart => exact ⟨0, Nat.zero_le _, rfl, by rw [fillUp_zero]; exact ho1, bx1, hb1⟩
  case round =>
    obtain ⟨wo, rfl⟩ : ∃ wo : World, wo = wr := ⟨_, rfl⟩
    obtain ⟨k, hk, rfl, ho, bxr, hbr⟩ := hrel
    have HO := Lib.hid ho
    clear ho ho1 bx1 r0 r1
    by_cases hlt : k < n1
    · have hlt0 : k < n0 := by have := H01.out; omega
      obtain ⟨ba, oa, rfl, hcA⟩ := (ha.keep (keeps_below hbr)).at_ hlt0
      obtain ⟨bn, on, An, nn, cn, rfl, hcN, rn⟩ := (hb.keep (keeps_below hbr)).at_ hlt
      obtain ⟨bm, om, rfl, hcM⟩ := (hm.keep (keeps_below hbr)).at_ (i := k) (by rw [HML.out]; exact hlt0)
      obtain ⟨_, ⟨hd1, hd2⟩, hset⟩ := HF.out.2.2.2 k (by rw [HL.out]; exact hlt0)
      rw [HL.out] at hset
      rw [rn.len] at hd1 hd2
      have HN := Lib.hid rn.len
      have HSET := Lib.hid hset; clear hset
      have bn1 := rn.cap; have bn2 := rn.top
      have q0 := bxr.d0; have q1 := bxr.d1
      have hkm : k < m := by rw [HML.out]; exact hlt0
      by_cases hcond : gb ms k = true ∧ gi o k = who
      · have E := Lib.hid (show leastV o n who ms al k = firstU (al k) (gl n k) nn by unfold leastV; rw [if_pos hcond, HN.out])
        obtain ⟨hg, hw⟩ := hcond
        rw [hg] at hcM
        have hne : (gi o k != who) = false := by simp [hw]
        clear hw hg
        go_wp2
        go_loopw [40] (fun i wr => ∃ j : Nat, j ≤ nn ∧ i = .int .i64 j ∧ (∀ t, t < j → al k (gi (gl n k) t).toNat = false) ∧ Below wo.heap.size wo wr) (fun i _ => nn - (intOf i).toNat)
        case atStart => exact ⟨0, Nat.zero_le _, rfl, by omega, Below.refl _ _⟩
        case round =>
          obtain ⟨j, hj, rfl, hall, hbi⟩ := hrel
          have HA := Lib.hid hall
          clear hall
          have hb2 := below_then hbi hbr.size hbr
          have bx2 := bxr.below hbi bxr.lt
          by_cases hjl : j < nn
          · obtain ⟨u, hu, hun⟩ := set_nat HSET.out (show j < (gl n k).length by rw [HN.out]; exact hjl)
            obtain ⟨bu, ou, rfl, hcU⟩ := (rn.keep (keeps_below hbi)).at_ hjl
            rw [hu] at hcU
            have hcall := HK.out wr k u hb2 hlt0 hun
            have HU := Lib.hid hu
            clear hu
            cases hal : al k u with
            | false =>
              rw [hal] at hcall
              have HN2 := Lib.hid (show al k (gi (gl n k) j).toNat = false by rw [HU.out]; exact hal)
              clear hal
              go_wp2_with fail
              refine hcall.mono ?_; rintro e w2 ⟨rfl, hb3⟩
              go_wp2
              go_roundw
              case rel => exact ⟨j + 1, by omega, by go_num, all_succ HA.out HN2.out, below_then hb3 hbi.size hbi⟩
              case measure => simp [intOf]; omega
            | true =>
              rw [hal] at hcall
              have X := Lib.hid (E.out.trans (firstU_hit HU.out hal HA.out hjl))
              have Y := Lib.hid (fillUp_put (f := leastV o n who ms al) (g := fun _ => -1) hlt0)
              clear hal
              go_wp2_with fail
              refine hcall.mono ?_; rintro e w2 ⟨rfl, hb3⟩
              have hbw := below_then hb3 hbi.size hbi
              have ho3 := HO.out.below hbw
              have bx3 := bxr.below hbw bxr.lt
              have hcm := ho3.cellAt (i := k) (by rw [fillUp_len]; exact hlt0)
              have hfz := ho3.hot (i := k) (by rw [fillUp_len])
              have hgl : w.heap.size + 1 ≤ g := (ho3.lt g rfl).1
              have HO3 := Lib.hid ho3
              have hkn : (k : Int) < (n0 : Int) := by omega
              clear ho3
              go_wp2
              exact ⟨⟨k + 1, by omega, by go_num, by rw [← Y.out, X.out]; exact HO3.out.set_ (by rw [fillUp_len]) _, bx3.far (by show w.heap.size ≠ g; omega) _, below_set (by show w.heap.size ≤ g; omega) (below_then hbw hbr.size hbr)⟩, by simp [intOf]; omega⟩
          · obtain rfl : j = nn := by omega
            have X := Lib.hid (E.out.trans (firstU_none HA.out))
            have Y := Lib.hid (fillUp_same (f := leastV o n who ms al) (g := fun _ => -1) (n := n0) (k := k) X.out)
            have ho3 := HO.out.below hbi
            go_wp2
            exact ⟨⟨k + 1, by omega, by go_num, by rw [Y.out]; exact ho3, bx2, hb2⟩, by simp [intOf]; omega⟩
      · have X := Lib.hid (show leastV o n who ms al k = -1 from if_neg hcond)
        have Y := Lib.hid (fillUp_same (f := leastV o n who ms al) (g := fun _ => -1) (n := n0) (k := k) X.out)
        cases hg : gb ms k with
        | false =>
          rw [hg] at hcM
          clear hcond
          go_wp2
          exact ⟨⟨k + 1, by omega, by go_num, by rw [Y.out]; exact HO.out, bxr, hbr⟩, by simp [intOf]; omega⟩
        | true =>
          have hne : (gi o k != who) = true := by
            simp only [hg, true_and] at hcond
            simpa using hcond
          rw [hg] at hcM
          clear hcond
          go_wp2
          exact ⟨⟨k + 1, by omega, by go_num, by rw [Y.out]; exact HO.out, bxr, hbr⟩, by simp [intOf]; omega⟩
    · obtain rfl : k = n1 := by omega
      have Y := Lib.hid (show fillUp (leastV o n who ms al) n0 (fun _ => -1) k = planL o n who ms al by rw [H01.out, fillUp_full]; unfold planL; rw [HL.out])
      go_wp2
      go_ret
      exact ⟨_, rfl, by rw [← Y.out]; exact HO.out.more (by omega), hbr.mono hB⟩
end Go.Proofs.Ytngadlpfheakiaa
