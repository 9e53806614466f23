/- TextVertex: plain laws. -/
import Derived.Test.YtkhkdnmpbfmmeaaDoorTextP
import Derived.Test.YtkhkdnmpbfmmeaaDoorFn6
namespace Go.Proofs.YtkhkdnmpbfmmeaaDoor
open Go.RowKit

/-- the successors of a line's words -/
def tvN (W : List (List UInt8)) (n : Int) : List Int := (W.drop 2).map fun x => rdNum x (n - 1)
theorem tvN_len (W : List (List UInt8)) (n : Int) : (tvN W n).length = W.length - 2 := by unfold tvN; simp
theorem tvN_gi {W : List (List UInt8)} {n : Int} {i : Nat} (h : i + 2 < W.length) : gi (tvN W n) i = rdNum (gx W (i + 2)) (n - 1) := by
  rw [gi_get (by rw [tvN_len]; omega)]
  unfold tvN
  rw [List.getElem_map, List.getElem_drop, gx_get h]
  congr 2
  omega
/-- is it the line of a vertex of a game of n? -/
noncomputable def tvOk (l : List UInt8) (n : Int) : Bool := decide (1 ≤ n ∧ n ≤ 256 ∧ 3 ≤ (spl 32 l).length ∧ (spl 32 l).length ≤ 18 ∧ 0 ≤ rdNum (gx (spl 32 l) 0) 40 ∧ 0 ≤ plr (gx (spl 32 l) 1)) && setB (tvN (spl 32 l) n) n
noncomputable def tvP (l : List UInt8) (n : Int) : Int := if tvOk l n = true then rdNum (gx (spl 32 l) 0) 40 else 0
noncomputable def tvO (l : List UInt8) (n : Int) : Int := if tvOk l n = true then plr (gx (spl 32 l) 1) else 0
noncomputable def tvX (l : List UInt8) (n : Int) : List Int := if tvOk l n = true then tvN (spl 32 l) n else []
theorem tv_no {l : List UInt8} {n : Int} (h : tvOk l n = false) : tvP l n = 0 ∧ tvO l n = 0 ∧ tvX l n = [] := by
  unfold tvP tvO tvX
  rw [h]
  exact ⟨rfl, rfl, rfl⟩
theorem tv_yes {l : List UInt8} {n : Int} (h : tvOk l n = true) : tvP l n = rdNum (gx (spl 32 l) 0) 40 ∧ tvO l n = plr (gx (spl 32 l) 1) ∧ tvX l n = tvN (spl 32 l) n := by
  unfold tvP tvO tvX
  rw [h]
  exact ⟨rfl, rfl, rfl⟩
theorem tvOk_no {l : List UInt8} {n : Int} (h : ¬ (1 ≤ n ∧ n ≤ 256 ∧ 3 ≤ (spl 32 l).length ∧ (spl 32 l).length ≤ 18 ∧ 0 ≤ rdNum (gx (spl 32 l) 0) 40 ∧ 0 ≤ plr (gx (spl 32 l) 1))) : tvOk l n = false := by
  unfold tvOk
  rw [decide_eq_false h]
  rfl
theorem tvOk_set {l : List UInt8} {n : Int} (h : setB (tvN (spl 32 l) n) n = false) : tvOk l n = false := by
  unfold tvOk
  rw [h, Bool.and_false]
theorem tvOk_of {l : List UInt8} {n : Int} (h : 1 ≤ n ∧ n ≤ 256 ∧ 3 ≤ (spl 32 l).length ∧ (spl 32 l).length ≤ 18 ∧ 0 ≤ rdNum (gx (spl 32 l) 0) 40 ∧ 0 ≤ plr (gx (spl 32 l) 1)) (h2 : setB (tvN (spl 32 l) n) n = true) : tvOk l n = true := by
  unfold tvOk
  rw [decide_eq_true h, h2]
  rfl
theorem tvOk_parts {l : List UInt8} {n : Int} (h : tvOk l n = true) : (1 ≤ n ∧ n ≤ 256 ∧ 3 ≤ (spl 32 l).length ∧ (spl 32 l).length ≤ 18 ∧ 0 ≤ rdNum (gx (spl 32 l) 0) 40 ∧ 0 ≤ plr (gx (spl 32 l) 1)) ∧ setB (tvN (spl 32 l) n) n = true := by
  unfold tvOk at h
  rw [Bool.and_eq_true] at h
  exact ⟨of_decide_eq_true h.1, h.2⟩
theorem plr_len {x : List UInt8} (h : 0 ≤ plr x) : x.length ≤ 4 := by
  unfold plr at h
  split at h
  · rename_i e; rw [e]; decide
  · split at h
    · rename_i e; rw [e]; decide
    · omega
theorem rd_len {x : List UInt8} {m : Int} (h : 0 ≤ rdNum x m) (hm : m ≤ 255) : x.length ≤ 3 := by
  obtain ⟨h1, h2, h3⟩ := rdNum_le h
  exact rdOk_short h3 (by omega)
theorem sum_le {L : List (List UInt8)} {f : List UInt8 → Nat} {m : Nat} (h : ∀ x ∈ L, f x ≤ m) : (L.map f).sum ≤ m * L.length := by
  induction L with
  | nil => simp
  | cons x r ih =>
    have h1 := h x (by simp)
    have h2 := ih (fun y hy => h y (List.mem_cons_of_mem _ hy))
    simp only [List.map_cons, List.sum_cons, List.length_cons, Nat.mul_add, Nat.mul_one]
    omega
/-- a right line is short -/
theorem tv_short {l : List UInt8} {n : Int} (h : tvOk l n = true) : l.length ≤ 100 := by
  obtain ⟨⟨h1, h2, h3, h4, h5, h6⟩, h7⟩ := tvOk_parts h
  have hl := spl_length 32 _ l (Nat.le_refl _)
  have hp : ∀ i, i < (spl 32 l).length → (gx (spl 32 l) i).length + 1 ≤ 5 := by
    intro i hi
    match i, hi with
    | 0, _ => have := rd_len h5 (by omega); omega
    | 1, _ => have := plr_len h6; omega
    | i + 2, hi =>
      have hs := setB_true.1 h7 i (by rw [tvN_len]; omega)
      have h8 := hs.1
      rw [tvN_gi hi] at h8
      have := rd_len h8 (by omega)
      omega
  have := sum_le (L := spl 32 l) (f := fun x => x.length + 1) (m := 5) (gx_all hp)
  omega
theorem tv_long {l : List UInt8} {n : Int} (h : 100 < l.length) : tvOk l n = false := by
  cases e : tvOk l n with
  | false => rfl
  | true => have := tv_short e; omega
/-- the first failure -/
theorem tv_bad {l : List UInt8} {n : Int} {i : Nat} (hi : i + 2 < (spl 32 l).length) (h : ¬ setAt (tvN (spl 32 l) n) n i) : tvOk l n = false :=
  tvOk_set (setB_no rfl (by rw [tvN_len]; omega) h)
theorem gl_snoc {α : Type} {l : List α} {k : Nat} (h : k < l.length) : l.take (k + 1) = l.take k ++ [l[k]] := List.take_succ_eq_append_getElem h
theorem tvN_snoc {W : List (List UInt8)} {n : Int} {i : Nat} (h : i + 2 < W.length) : (tvN W n).take (i + 1) = (tvN W n).take i ++ [rdNum (gx W (i + 2)) (n - 1)] := by
  have h' : i < (tvN W n).length := by rw [tvN_len]; omega
  rw [gl_snoc h', ← gi_get h', tvN_gi h]
set_option maxRecDepth 100000 in
set_option maxHeartbeats 3200000 in
theorem specTextVertex (s : ByteArray) (n : Int) (w : World) (B : Nat) (hB : B ≤ w.heap.size) (hs : s.size ≤ 4000000) :
    Calls Tryd.prog 25 #[.string s, .int .i64 n] w fun e w' => ∃ v, e = .returned (.tuple #[.int .i64 (tvP s.data.toList n), .int .i64 (tvO s.data.toList n), v, .bool (tvOk s.data.toList n)]) ∧ OI 2 w' B v (tvX s.data.toList n) ∧ Below B w w' := by
  have HZ := Lib.hid (Lib.size_eq s)
  have FAIL : ∀ (v : Value) (w' : World), tvOk s.data.toList n = false → OI 2 w' B v [] → Below B w w' → ∃ v', Ending.returned (.tuple #[.int .i64 0, .int .i64 0, v, .bool false]) = .returned (.tuple #[.int .i64 (tvP s.data.toList n), .int .i64 (tvO s.data.toList n), v', .bool (tvOk s.data.toList n)]) ∧ OI 2 w' B v' (tvX s.data.toList n) ∧ Below B w w' := fun v w' h ho hb => by
    obtain ⟨e1, e2, e3⟩ := tv_no h
    exact ⟨_, by rw [e1, e2, h], by rw [e3]; exact ho, hb⟩
  have HF := Lib.hid FAIL
  clear FAIL
  by_cases h1 : inR n 1 256 = true
  · have hn := of_decide_eq_true h1
    by_cases h2 : 100 < s.size
    · have E := Lib.hid (tv_long (n := n) (show 100 < s.data.toList.length by rw [← HZ.out]; exact h2))
      have HI := Lib.hid h1
      clear h1 hn
      go_enter Tryd.func25, Tryd.ntmps25
      go_wp2_with (go_at_call 61; refine (l1In _ _ _ _).mono ?_; rintro e w' ⟨rfl, q, rfl⟩; rw [HI.out])
      refine bodyPost_ret (v := .tuple #[.int .i64 0, .int .i64 0, .slice (some ⟨w.heap.size, 0, none⟩) 0 0, .bool false]) (by simp [results, Tryd.results25, go_sem]) rfl ?_
      exact HF.out _ _ E.out (OI.empty hB) (below_drewN (below_alloc hB (Below.refl _ _)) _)
    · have HI := Lib.hid h1
      have HN := Lib.hid hn
      have e1 : IntKind.i64.wrap (n - 1) = n - 1 := IntWalk.i64_in _ (by omega)
      clear h1 hn
      go_enter Tryd.func25, Tryd.ntmps25
      go_wp2_with fail
      refine (l1In _ _ _ _).mono ?_; rintro e w' ⟨rfl, q, rfl⟩
      rw [HI.out]
      go_wp2_with fail
      refine (l1Split s 32 32 rfl _ _ (Nat.le_refl _) hs).mono ?_; rintro e w1 ⟨v, rfl, ho1, hb1⟩
      obtain ⟨A1, c1, rfl⟩ := ho1.form
      have hcap := ho1.reads.cap
      have htop := ho1.reads.top
      have HLn := Lib.hid (splT_len 32 s)
      have hw1 : Below w.heap.size w w1 := below_then hb1 (by simp) (below_drewN (below_alloc (Nat.le_refl _) (Below.refl _ _)) _)
      have hs1 := hw1.size
      have hs1' := hb1.size
      have hv0 : OI 2 w1 w.heap.size (.slice (some ⟨w.heap.size, 0, none⟩) 0 0) [] := OI.below (w := (w.alloc (.cells #[] 2)).drewN q) (OI.empty (w := w) (Nat.le_refl _)) hb1
      have hR := ho1.reads
      by_cases h3 : (splT 32 s).length < 3
      · have E := Lib.hid (tvOk_no (l := s.data.toList) (n := n) (fun h => by have := h.2.2.1; rw [← HLn.out] at this; omega))
        go_wp2
        refine bodyPost_ret (v := .tuple #[.int .i64 0, .int .i64 0, .slice (some ⟨w.heap.size, 0, none⟩) 0 0, .bool false]) (by simp [results, Tryd.results25, go_sem]) rfl ?_
        exact HF.out _ _ E.out (hv0.more hB) (hw1.mono hB)
      by_cases h4 : 18 < (splT 32 s).length
      · have E := Lib.hid (tvOk_no (l := s.data.toList) (n := n) (fun h => by have := h.2.2.2.1; rw [← HLn.out] at this; omega))
        go_wp2
        refine bodyPost_ret (v := .tuple #[.int .i64 0, .int .i64 0, .slice (some ⟨w.heap.size, 0, none⟩) 0 0, .bool false]) (by simp [results, Tryd.results25, go_sem]) rfl ?_
        exact HF.out _ _ E.out (hv0.more hB) (hw1.mono hB)
      obtain ⟨b, off, hA, hc0⟩ := hR.at_ (show 0 < (splT 32 s).length by omega)
      subst hA
      obtain ⟨b', off', hA', hc1⟩ := hR.at_ (show 1 < (splT 32 s).length by omega)
      injection hA' with hA'
      injection hA' with hb' ho'
      subst hb'; subst ho'
      rw [Nat.add_zero] at hc0
      have HG0 := Lib.hid (gtd 32 s 0)
      have HG1 := Lib.hid (gtd 32 s 1)
      have h4' : (splT 32 s).length ≤ 18 := by omega
      have h3' : 3 ≤ (splT 32 s).length := by omega
      go_wp2_with (first
        | (go_at_call 62; refine (l13Number _ _ _).mono ?_; rintro e w2 ⟨rfl, q2, rfl⟩; rw [HG0.out])
        | (go_at_call 63; refine (l13Player _ _).mono ?_; rintro e w3 ⟨rfl, q3, rfl⟩; rw [HG1.out]))
      have hw3 : Below w.heap.size w (w1.drewN (q2 + q3)) := below_drewN hw1 _
      go_loopw [12, 13] (fun v i wr => ∃ m : Nat, m + 2 ≤ (splT 32 s).length ∧ i = .int .i64 ((m : Int) + 2) ∧ (∀ j, j < m → setAt (tvN (spl 32 s.data.toList) n) n j) ∧ OI 2 wr (w.heap.size + 1) v ((tvN (spl 32 s.data.toList) n).take m) ∧ Below w.heap.size w wr ∧ OS wr w.heap.size (.slice (some ⟨b, off, none⟩) (splT 32 s).length c1) (splT 32 s) ∧ OI 2 wr w.heap.size (.slice (some ⟨w.heap.size, 0, none⟩) 0 0) []) (fun _ i _ => (splT 32 s).length - (intOf i).toNat)
      case atStart =>
        have hx : Below w1.heap.size w1 ((w1.drewN (q2 + q3)).alloc (.cells #[] 2)) := below_alloc (Nat.le_refl _) (below_drewN (Below.refl _ _) _)
        exact ⟨0, by omega, rfl, by omega, OI.empty (w := w1.drewN (q2 + q3)) (by simp at hs1'; simp; omega), below_alloc (Nat.le_refl _) hw3, (ho1.more (by simp)).below hx, hv0.below hx⟩
      case round =>
        obtain ⟨m, hm, rfl, hall, ho, hbr, hrr, hvr⟩ := hrel
        have hsz := hbr.size
        have HA := Lib.hid hall
        clear hall
        have hml : ((tvN (spl 32 s.data.toList) n).take m).length = m := by rw [List.length_take, tvN_len, ← HLn.out]; omega
        have hlo1 : w.heap.size + 1 ≤ wr.heap.size := by have := (hvr.lt w.heap.size rfl).2; omega
        obtain ⟨Av, cv, rfl⟩ := ho.form
        rw [hml] at ho
        rw [hml]
        have hcapv := ho.reads.cap
        have htopv := ho.reads.top
        by_cases hlt : m + 2 < (splT 32 s).length
        · obtain ⟨b2, off2, hA2, hcm⟩ := (OS.reads hrr).at_ hlt
          injection hA2 with hA2
          injection hA2 with hb2 ho2
          subst hb2; subst ho2
          have HG := Lib.hid (gtd 32 s (m + 2))
          have hlW : m + 2 < (spl 32 s.data.toList).length := by rw [← HLn.out]; exact hlt
          have HU := Lib.hid (tvN_gi (n := n) hlW)
          have HS := Lib.hid (tvN_snoc (n := n) hlW)
          have HBad := Lib.hid (fun h => tv_bad (n := n) hlW h)
          have hmi : ((m : Int) + 2) < ((splT 32 s).length : Int) := by omega
          have hm0 : (0 : Int) ≤ (m : Int) + 2 := by omega
          have hto : ((m : Int) + 2).toNat = m + 2 := by omega
          clear hlW
          have hbr3 : ∀ q, Below w.heap.size w (wr.drewN q) := fun q => below_drewN hbr q
          by_cases hu : 0 ≤ rdNum (gx (spl 32 s.data.toList) (m + 2)) (n - 1)
          · have HSn : Hid (rdNum (gx (spl 32 s.data.toList) (m + 2)) (n - 1) ≤ n - 1) := Lib.hid (rdNum_le hu).1
            have HU0 := Lib.hid hu
            have hll : ((tvN (spl 32 s.data.toList) n).take m).length ≤ 4194304 := by rw [hml]; omega
            rcases m with _ | m'
            · have HA1 : Hid (setAt (tvN (spl 32 s.data.toList) n) n 0) := Lib.hid ⟨by rw [HU.out]; exact HU0.out, by rw [HU.out]; have := HSn.out; omega, fun h => absurd h (by omega)⟩
              rw [List.take_zero] at ho
              have hu2 : 0 ≤ rdNum (gx (spl 32 s.data.toList) 2) (n - 1) := hu
              clear hml hm0 hto
              go_wp2_with (first
                | (go_at_call 62; refine (l13Number _ _ _).mono ?_; rintro e w4 ⟨rfl, q4, rfl⟩; rw [HG.out])
                | (at_builtin; refine wpList_pushI rfl (.tmp 76) (.tmp 78) rfl (wr.drewN q4) (w.heap.size + 1) (.slice Av 0 cv) [] rfl ho _ rfl (by simp) hlo1 ?_; intro v' w5 ho5 hb5 hc5 hv5))
              have hb5' : Below w.heap.size w w5 := (hbr3 q4).trans (hb5.mono (by omega))
              go_roundw
              case rel =>
                refine ⟨1, by omega, by go_num, fun j hj => ?_, ?_, hb5', ?_, ?_⟩
                · obtain rfl : j = 0 := Nat.lt_one_iff.1 hj
                  exact HA1.out
                · rw [HS.out, List.take_zero]; exact ho5
                · exact row_chg (w := wr.drewN q4) hrr hc5 (fun x hx e => own_ne hrr ho (by decide) x hx e)
                · exact row_chg (w := wr.drewN q4) hvr hc5 (fun x hx e => by have := (ho.lt x e).1; simp [Value.ownBlock] at hx; omega)
              case measure => simp [intOf]; omega
            · obtain ⟨b3, off3, hA3, hcl⟩ := ho.reads.at_ (show m' < m' + 1 by omega)
              subst hA3
              have hgl : gi ((tvN (spl 32 s.data.toList) n).take (m' + 1)) m' = gi (tvN (spl 32 s.data.toList) n) m' := gi_take (by omega)
              rw [hgl] at hcl
              clear hgl
              by_cases hls : gi (tvN (spl 32 s.data.toList) n) m' < rdNum (gx (spl 32 s.data.toList) (m' + 1 + 2)) (n - 1)
              · have HA1 : Hid (setAt (tvN (spl 32 s.data.toList) n) n (m' + 1)) := Lib.hid ⟨by rw [HU.out]; exact HU0.out, by rw [HU.out]; have := HSn.out; omega, fun h => by rw [HU.out]; exact hls⟩
                clear hml hm0 hto
                go_wp2_with (first
                  | (go_at_call 62; refine (l13Number _ _ _).mono ?_; rintro e w4 ⟨rfl, q4, rfl⟩; rw [HG.out])
                  | (at_builtin; refine wpList_pushI rfl (.tmp 76) (.tmp 78) rfl (wr.drewN q4) (w.heap.size + 1) (.slice (some ⟨b3, off3, none⟩) (m' + 1) cv) ((tvN (spl 32 s.data.toList) n).take (m' + 1)) rfl ho _ rfl hll hlo1 ?_; intro v' w5 ho5 hb5 hc5 hv5))
                have hb5' : Below w.heap.size w w5 := (hbr3 q4).trans (hb5.mono (by omega))
                go_roundw
                case rel =>
                  refine ⟨m' + 1 + 1, by omega, by go_num, all_succ HA.out HA1.out, ?_, hb5', ?_, ?_⟩
                  · rw [HS.out]; exact ho5
                  · exact row_chg (w := wr.drewN q4) hrr hc5 (fun x hx e => own_ne hrr ho (by decide) x hx e)
                  · exact row_chg (w := wr.drewN q4) hvr hc5 (fun x hx e => by have := (ho.lt x e).1; simp [Value.ownBlock] at hx; omega)
                case measure => simp [intOf]; omega
              · have E := Lib.hid (HBad.out (fun h => hls (by have := h.2.2 (by omega); rw [HU.out] at this; exact this)))
                have hls' : rdNum (gx (spl 32 s.data.toList) (m' + 1 + 2)) (n - 1) ≤ gi (tvN (spl 32 s.data.toList) n) m' := by omega
                clear hls hml hm0 hto
                go_wp2_with (go_at_call 62; refine (l13Number _ _ _).mono ?_; rintro e w4 ⟨rfl, q4, rfl⟩; rw [HG.out])
                refine bodyPost_ret (v := .tuple #[.int .i64 0, .int .i64 0, .slice (some ⟨w.heap.size, 0, none⟩) 0 0, .bool false]) (by simp [results, Tryd.results25, go_sem]) rfl ?_
                exact HF.out _ _ E.out (OI.more (w := wr.drewN q4) hvr hB) ((hbr3 q4).mono hB)
          · have E := Lib.hid (HBad.out (fun h => hu (by have := h.1; rw [HU.out] at this; exact this)))
            have hu' : rdNum (gx (spl 32 s.data.toList) (m + 2)) (n - 1) < 0 := by omega
            clear hu
            go_wp2_with (go_at_call 62; refine (l13Number _ _ _).mono ?_; rintro e w4 ⟨rfl, q4, rfl⟩; rw [HG.out])
            refine bodyPost_ret (v := .tuple #[.int .i64 0, .int .i64 0, .slice (some ⟨w.heap.size, 0, none⟩) 0 0, .bool false]) (by simp [results, Tryd.results25, go_sem]) rfl ?_
            exact HF.out _ _ E.out (OI.more (w := wr.drewN q4) hvr hB) ((hbr3 q4).mono hB)
        · have hmi : ¬ ((m : Int) + 2) < ((splT 32 s).length : Int) := by omega
          have hme : m + 2 = (splT 32 s).length := by omega
          have HSet := Lib.hid (setB_of (xs := tvN (spl 32 s.data.toList) n) (m := m) (by rw [tvN_len, ← HLn.out]; omega) HA.out)
          have HT : Hid ((tvN (spl 32 s.data.toList) n).take m = tvN (spl 32 s.data.toList) n) := Lib.hid (List.take_of_length_le (by rw [tvN_len, ← HLn.out]; omega))
          clear hme
          by_cases hp : 0 ≤ rdNum (gx (spl 32 s.data.toList) 0) 40
          · by_cases hq : 0 ≤ plr (gx (spl 32 s.data.toList) 1)
            · have E := Lib.hid (tvOk_of (l := s.data.toList) (n := n) ⟨HN.out.1, HN.out.2, by rw [← HLn.out]; exact h3', by rw [← HLn.out]; exact h4', hp, hq⟩ HSet.out)
              have EY := Lib.hid (tv_yes E.out)
              go_wp2
              refine bodyPost_ret (v := .tuple #[.int .i64 (rdNum (gx (spl 32 s.data.toList) 0) 40), .int .i64 (plr (gx (spl 32 s.data.toList) 1)), .slice Av m cv, .bool true]) (by simp [results, Tryd.results25, go_sem]) rfl ?_
              exact ⟨_, by rw [EY.out.1, EY.out.2.1, E.out], by rw [EY.out.2.2, ← HT.out]; exact ho.more (by omega), hbr.mono hB⟩
            · have E := Lib.hid (tvOk_no (l := s.data.toList) (n := n) (fun h => hq h.2.2.2.2.2))
              have hq' : plr (gx (spl 32 s.data.toList) 1) < 0 := by omega
              clear hq
              go_wp2
              refine bodyPost_ret (v := .tuple #[.int .i64 0, .int .i64 0, .slice (some ⟨w.heap.size, 0, none⟩) 0 0, .bool false]) (by simp [results, Tryd.results25, go_sem]) rfl ?_
              exact HF.out _ _ E.out (hvr.more hB) (hbr.mono hB)
          · have E := Lib.hid (tvOk_no (l := s.data.toList) (n := n) (fun h => hp h.2.2.2.2.1))
            have hp' : rdNum (gx (spl 32 s.data.toList) 0) 40 < 0 := by omega
            clear hp
            go_wp2
            refine bodyPost_ret (v := .tuple #[.int .i64 0, .int .i64 0, .slice (some ⟨w.heap.size, 0, none⟩) 0 0, .bool false]) (by simp [results, Tryd.results25, go_sem]) rfl ?_
            exact HF.out _ _ E.out (hvr.more hB) (hbr.mono hB)
  · replace h1 : inR n 1 256 = false := by simpa using h1
    have E := Lib.hid (tvOk_no (l := s.data.toList) (n := n) (fun h => by have := of_decide_eq_false h1; omega))
    go_enter Tryd.func25, Tryd.ntmps25
    go_wp2_with (go_at_call 61; refine (l1In _ _ _ _).mono ?_; rintro e w' ⟨rfl, q, rfl⟩; rw [h1])
    refine bodyPost_ret (v := .tuple #[.int .i64 0, .int .i64 0, .slice (some ⟨w.heap.size, 0, none⟩) 0 0, .bool false]) (by simp [results, Tryd.results25, go_sem]) rfl ?_
    exact HF.out _ _ E.out (OI.empty hB) (below_drewN (below_alloc hB (Below.refl _ _)) _)
theorem rd_ok {x : List UInt8} {n : Int} : (rdOk x && decide (rdVal x < n)) = decide (0 ≤ rdNum x (n - 1)) := by
  cases h : rdOk x with
  | true =>
    rw [rdVal_ok h, Bool.true_and]
    unfold rdNum
    by_cases e : (dgVal x : Int) < n
    · rw [decide_eq_true e, if_pos ⟨h, by omega⟩, decide_eq_true (by omega)]
    · rw [decide_eq_false e, if_neg (fun k => e (by omega)), decide_eq_false (by omega)]
  | false =>
    rw [Bool.false_and]
    unfold rdNum
    rw [if_neg (fun k => by rw [h] at k; cases k.1), decide_eq_false (by omega)]
theorem rd_val {x : List UInt8} {n : Int} (h : 0 ≤ rdNum x n) : rdVal x = rdNum x n := by
  obtain ⟨_, h2, h3⟩ := rdNum_le h
  rw [rdVal_ok h3, h2]
theorem readNumberR (s : ByteArray) (n : Int) (w : World) :
    Calls Tryd.prog 64 #[.string s, .int .i64 n] w fun e w' => e = .returned (.tuple #[.int .i64 (rdVal s.data.toList), .bool (decide (0 ≤ rdNum s.data.toList (n - 1)))]) ∧ Qt w w' := by
  have h := readNumber s n w
  rw [rd_ok] at h
  exact h

set_option maxRecDepth 100000 in
set_option maxHeartbeats 3200000 in
theorem implTextVertex (s : ByteArray) (n : Int) (w : World) (B : Nat) (hB : B ≤ w.heap.size) (hP : PN w) (hM : Max w) (hs : s.size ≤ 4000000) :
    Calls Tryd.prog 26 #[.string s, .int .i64 n] w fun e w' => ∃ v, e = .returned (.tuple #[.int .i64 (tvP s.data.toList n), .int .i64 (tvO s.data.toList n), v, .bool (tvOk s.data.toList n)]) ∧ OI 2 w' B v (tvX s.data.toList n) ∧ Below B w w' := by
  have HZ := Lib.hid (Lib.size_eq s)
  have FAIL : ∀ (w' : World), tvOk s.data.toList n = false → Below B w w' → ∃ v', Ending.returned (.tuple #[.int .i64 0, .int .i64 0, .slice none 0 0, .bool false]) = .returned (.tuple #[.int .i64 (tvP s.data.toList n), .int .i64 (tvO s.data.toList n), v', .bool (tvOk s.data.toList n)]) ∧ OI 2 w' B v' (tvX s.data.toList n) ∧ Below B w w' := fun w' h hb => by
    obtain ⟨e1, e2, e3⟩ := tv_no h
    exact ⟨_, by rw [e1, e2, h], by rw [e3]; exact OI.nil _ _ _, hb⟩
  have HF := Lib.hid FAIL
  clear FAIL
  by_cases h1 : 1 ≤ n ∧ n ≤ 256
  · have HN := Lib.hid h1
    have hn1 := h1.1
    have hn2 := h1.2
    clear h1
    go_enter Tryd.func26, Tryd.ntmps26
    go_wp2_with fail
    refine (stringsSplit s 32 _ hM hs).mono ?_; rintro e w1 ⟨v, rfl, ho1, hb1⟩
    obtain ⟨A1, c1, rfl⟩ := ho1.form
    have hcap := ho1.reads.cap
    have htop := ho1.reads.top
    have HLn := Lib.hid (splT_len 32 s)
    have hs1 := hb1.size
    have hR := ho1.reads
    by_cases h3 : (splT 32 s).length < 3
    · have E := Lib.hid (tvOk_no (l := s.data.toList) (n := n) (fun h => by have := h.2.2.1; rw [← HLn.out] at this; omega))
      go_wp2
      refine bodyPost_ret (v := .tuple #[.int .i64 0, .int .i64 0, .slice none 0 0, .bool false]) (by simp [results, Tryd.results26, go_sem]) rfl ?_
      exact HF.out _ E.out (hb1.mono hB)
    by_cases h4 : 18 < (splT 32 s).length
    · have E := Lib.hid (tvOk_no (l := s.data.toList) (n := n) (fun h => by have := h.2.2.2.1; rw [← HLn.out] at this; omega))
      go_wp2
      refine bodyPost_ret (v := .tuple #[.int .i64 0, .int .i64 0, .slice none 0 0, .bool false]) (by simp [results, Tryd.results26, go_sem]) rfl ?_
      exact HF.out _ E.out (hb1.mono hB)
    obtain ⟨b, off, hA, hc0⟩ := hR.at_ (show 0 < (splT 32 s).length by omega)
    subst hA
    obtain ⟨b', off', hA', hc1⟩ := hR.at_ (show 1 < (splT 32 s).length by omega)
    injection hA' with hA'
    injection hA' with hb' ho'
    subst hb'; subst ho'
    rw [Nat.add_zero] at hc0
    have HG0 := Lib.hid (gtd 32 s 0)
    have HG1 := Lib.hid (gtd 32 s 1)
    have h4' : (splT 32 s).length ≤ 18 := by omega
    have h3' : 3 ≤ (splT 32 s).length := by omega
    have hP1 := hP.keep (keeps_below hb1)
    by_cases hp : 0 ≤ rdNum (gx (spl 32 s.data.toList) 0) 40
    · by_cases hq : 0 ≤ plr (gx (spl 32 s.data.toList) 1)
      · have HP0 := Lib.hid (show decide (0 ≤ rdNum (gx (spl 32 s.data.toList) 0) (41 - 1)) = true from decide_eq_true hp)
        have HQ0 := Lib.hid hq
        have HPV := Lib.hid (rd_val hp)
        have HPP := Lib.hid hp
        clear hp
        have hc2' : 2 < c1 := by omega
        go_wp2_with (first
          | (go_at_call 64; refine (readNumberR _ _ _).mono ?_; rintro e w2 ⟨rfl, q2, rfl⟩; rw [HG0.out, HP0.out, HPV.out])
          | (go_at_call 65; refine (playerOf _ _ (by exact hP1)).mono ?_; rintro e w3 ⟨rfl, q3, rfl⟩; rw [HG1.out]))
        have hw3 : Below w.heap.size w (w1.drewN (q2 + q3)) := below_drewN hb1 _
        go_loopw [12, 54] (fun v i wr => ∃ m : Nat, m + 2 ≤ (splT 32 s).length ∧ i = .int .i64 (m : Int) ∧ (∀ j, j < m → 0 ≤ gi (tvN (spl 32 s.data.toList) n) j) ∧ OI 2 wr w1.heap.size v ((tvN (spl 32 s.data.toList) n).take m) ∧ Below w.heap.size w wr ∧ w1.heap.size ≤ wr.heap.size ∧ OS wr w.heap.size (.slice (some ⟨b, off, none⟩) (splT 32 s).length c1) (splT 32 s)) (fun _ i _ => (splT 32 s).length - (intOf i).toNat)
        case atStart =>
          have hx : Below w1.heap.size w1 ((w1.drewN (q2 + q3)).alloc (.cells #[] 2)) := below_alloc (Nat.le_refl _) (below_drewN (Below.refl _ _) _)
          exact ⟨0, by omega, rfl, by omega, OI.empty (w := w1.drewN (q2 + q3)) (Nat.le_refl _), below_alloc (Nat.le_refl _) hw3, by simp, ho1.below hx⟩
        case round =>
          obtain ⟨m, hm, rfl, hall, ho, hbr, hz1, hrr⟩ := hrel
          have hsz := hbr.size
          have HA := Lib.hid hall
          clear hall
          have hml : ((tvN (spl 32 s.data.toList) n).take m).length = m := by rw [List.length_take, tvN_len, ← HLn.out]; omega
          by_cases hlt : m + 2 < (splT 32 s).length
          · obtain ⟨b2, off2, hA2, hcm⟩ := (OS.reads hrr).at_ hlt
            injection hA2 with hA2
            injection hA2 with hb2 ho2
            subst hb2; subst ho2
            have HG := Lib.hid (gtd 32 s (m + 2))
            have hlW : m + 2 < (spl 32 s.data.toList).length := by rw [← HLn.out]; exact hlt
            have HU := Lib.hid (tvN_gi (n := n) hlW)
            have HS := Lib.hid (tvN_snoc (n := n) hlW)
            have HBad := Lib.hid (fun h => tv_bad (n := n) hlW h)
            have hcm2 : wr.cell? ⟨b, off + 2 + m, none⟩ = some (.string (gt (splT 32 s) (m + 2))) := by rw [← hcm, show off + 2 + m = off + (m + 2) by omega]
            have hlt2 : m < (splT 32 s).length - 2 := by omega
            have hll : ((tvN (spl 32 s.data.toList) n).take m).length ≤ 4194304 := by rw [hml]; omega
            clear hlW hcm
            obtain ⟨Av, cv, rfl⟩ := ho.form
            rw [hml] at ho
            rw [hml]
            by_cases hu : 0 ≤ rdNum (gx (spl 32 s.data.toList) (m + 2)) (n - 1)
            · have HD := Lib.hid (show decide (0 ≤ rdNum (gx (spl 32 s.data.toList) (m + 2)) (n - 1)) = true from decide_eq_true hu)
              have HV := Lib.hid (rd_val hu)
              have HU0 := Lib.hid hu
              clear hu hml
              go_wp2_with (first
                | (go_at_call 64; refine (readNumberR _ _ _).mono ?_; rintro e w4 ⟨rfl, q4, rfl⟩; rw [HG.out, HD.out, HV.out])
                | (at_builtin; refine wpList_pushI rfl (.tmp 66) (.tmp 68) rfl (wr.drewN q4) w1.heap.size (.slice Av m cv) ((tvN (spl 32 s.data.toList) n).take m) rfl ho _ rfl hll hz1 ?_; intro v' w5 ho5 hb5 hc5 hv5))
              have hb5' : Below w.heap.size w w5 := (below_drewN hbr q4).trans (hb5.mono hs1)
              go_roundw
              case rel =>
                refine ⟨m + 1, by omega, by go_num, all_succ HA.out (by rw [HU.out]; exact HU0.out), by rw [HS.out]; exact ho5, hb5', Nat.le_trans hz1 hb5.size, ?_⟩
                exact row_chg (w := wr.drewN q4) hrr hc5 (fun x hx e => own_ne hrr ho (by decide) x hx e)
              case measure => simp [intOf]; omega
            · have E := Lib.hid (HBad.out (fun h => hu (by have := h.1; rw [HU.out] at this; exact this)))
              have HD := Lib.hid (show decide (0 ≤ rdNum (gx (spl 32 s.data.toList) (m + 2)) (n - 1)) = false from decide_eq_false hu)
              clear hu hml
              go_wp2_with (go_at_call 64; refine (readNumberR _ _ _).mono ?_; rintro e w4 ⟨rfl, q4, rfl⟩; rw [HG.out, HD.out])
              refine bodyPost_ret (v := .tuple #[.int .i64 0, .int .i64 0, .slice none 0 0, .bool false]) (by simp [results, Tryd.results26, go_sem]) rfl ?_
              exact HF.out _ E.out ((below_drewN hbr q4).mono hB)
          · have hlt2 : ¬ m < (splT 32 s).length - 2 := by omega
            have HT : Hid ((tvN (spl 32 s.data.toList) n).take m = tvN (spl 32 s.data.toList) n) := Lib.hid (List.take_of_length_le (by rw [tvN_len, ← HLn.out]; omega))
            rw [HT.out] at ho
            obtain ⟨Av, cv, rfl⟩ := ho.form
            cases hset : setB (tvN (spl 32 s.data.toList) n) n with
            | true =>
              have E := Lib.hid (tvOk_of (l := s.data.toList) (n := n) ⟨HN.out.1, HN.out.2, by rw [← HLn.out]; exact h3', by rw [← HLn.out]; exact h4', HPP.out, HQ0.out⟩ hset)
              have EY := Lib.hid (tv_yes E.out)
              have HSE := Lib.hid hset
              clear hset
              go_wp2_with (go_at_call 66; refine (isSet _ _ _ _ _ _ ho.reads).mono ?_; rintro e w4 ⟨rfl, q4, rfl⟩; rw [HSE.out])
              refine bodyPost_ret (v := .tuple #[.int .i64 (rdNum (gx (spl 32 s.data.toList) 0) 40), .int .i64 (plr (gx (spl 32 s.data.toList) 1)), .slice Av (tvN (spl 32 s.data.toList) n).length cv, .bool true]) (by simp [results, Tryd.results26, go_sem]) rfl ?_
              exact ⟨_, by rw [EY.out.1, EY.out.2.1, E.out], by rw [EY.out.2.2]; exact OI.more (w := wr.drewN q4) ho (Nat.le_trans hB hs1), (below_drewN hbr q4).mono hB⟩
            | false =>
              have E := Lib.hid (tvOk_set hset)
              have HSE := Lib.hid hset
              clear hset
              go_wp2_with (go_at_call 66; refine (isSet _ _ _ _ _ _ ho.reads).mono ?_; rintro e w4 ⟨rfl, q4, rfl⟩; rw [HSE.out])
              refine bodyPost_ret (v := .tuple #[.int .i64 0, .int .i64 0, .slice none 0 0, .bool false]) (by simp [results, Tryd.results26, go_sem]) rfl ?_
              exact HF.out _ E.out ((below_drewN hbr q4).mono hB)
      · have E := Lib.hid (tvOk_no (l := s.data.toList) (n := n) (fun h => hq h.2.2.2.2.2))
        have HP0 := Lib.hid (show decide (0 ≤ rdNum (gx (spl 32 s.data.toList) 0) (41 - 1)) = true from decide_eq_true hp)
        have hq' : plr (gx (spl 32 s.data.toList) 1) < 0 := by omega
        clear hq hp
        go_wp2_with (first
          | (go_at_call 64; refine (readNumberR _ _ _).mono ?_; rintro e w2 ⟨rfl, q2, rfl⟩; rw [HG0.out, HP0.out])
          | (go_at_call 65; refine (playerOf _ _ (by exact hP1)).mono ?_; rintro e w3 ⟨rfl, q3, rfl⟩; rw [HG1.out]))
        refine bodyPost_ret (v := .tuple #[.int .i64 0, .int .i64 0, .slice none 0 0, .bool false]) (by simp [results, Tryd.results26, go_sem]) rfl ?_
        exact HF.out _ E.out (below_drewN (hb1.mono hB) _)
    · have E := Lib.hid (tvOk_no (l := s.data.toList) (n := n) (fun h => hp h.2.2.2.2.1))
      have HP0 := Lib.hid (show decide (0 ≤ rdNum (gx (spl 32 s.data.toList) 0) (41 - 1)) = false from decide_eq_false hp)
      clear hp
      go_wp2_with (first
        | (go_at_call 64; refine (readNumberR _ _ _).mono ?_; rintro e w2 ⟨rfl, q2, rfl⟩; rw [HG0.out, HP0.out])
        | (go_at_call 65; refine (playerOf _ _ (by exact hP1)).mono ?_; rintro e w3 ⟨rfl, q3, rfl⟩; rw [HG1.out]))
      refine bodyPost_ret (v := .tuple #[.int .i64 0, .int .i64 0, .slice none 0 0, .bool false]) (by simp [results, Tryd.results26, go_sem]) rfl ?_
      exact HF.out _ E.out (below_drewN (hb1.mono hB) _)
  · have E := Lib.hid (tvOk_no (l := s.data.toList) (n := n) (fun h => h1 ⟨h.1, h.2.1⟩))
    have hc : (n < 1 ∧ (0 : Int) ≤ (s.size : Int)) ∨ (1 ≤ n ∧ 256 < n) := by omega
    clear h1
    rcases hc with ⟨hc1, hc2⟩ | ⟨hc1, hc2⟩
    all_goals
      go_enter Tryd.func26, Tryd.ntmps26
      go_wp2
      refine bodyPost_ret (v := .tuple #[.int .i64 0, .int .i64 0, .slice none 0 0, .bool false]) (by simp [results, Tryd.results26, go_sem]) rfl ?_
      exact HF.out _ E.out (Below.refl _ _)
theorem tvX_len (l : List UInt8) (n : Int) : ((tvX l n).length : Int) ≤ 16 := by
  cases h : tvOk l n with
  | false => rw [(tv_no h).2.2]; simp
  | true =>
    rw [(tv_yes h).2.2, tvN_len]
    have := (tvOk_parts h).1.2.2.2.1
    omega
end Go.Proofs.YtkhkdnmpbfmmeaaDoor
