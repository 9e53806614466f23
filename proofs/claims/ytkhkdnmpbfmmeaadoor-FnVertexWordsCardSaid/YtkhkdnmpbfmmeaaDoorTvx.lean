/- TextVertex: plain laws. -/
import Derived.Test.YtkhkdnmpbfmmeaaDoorTextP
import Derived.Test.YtkhkdnmpbfmmeaaDoorFn6
namespace Go.Proofs.YtkhkdnmpbfmmeaaDoor
open Go.RowKit

/-- the successors of a line's words -/
def tvN (W : List (List UInt8)) (n : Int) : List Int := (W.drop 2).map fun x => rdNum x (n - 1)
theorem tvN_len (W : List (List UInt8)) (n : Int) : (tvN W n).length = W.length - 2 := by unfold tvN; simp
theorem tvN_gi {W : List (List UInt8)} {n : Int} {i : Nat} (h : i + 2 < W.length) : gi (tvN W n) i = rdNum (gx W (i + 2)) (n - 1) := by
  rw [gi_get (by rw [tvN_len]; omega)]
  unfold tvN
  rw [List.getElem_map, List.getElem_drop, gx_get h]
  congr 2
  omega
/-- is it the line of a vertex of a game of n? -/
noncomputable def tvOk (l : List UInt8) (n : Int) : Bool := decide (1 ≤ n ∧ n ≤ 256 ∧ 3 ≤ (spl 32 l).length ∧ (spl 32 l).length ≤ 18 ∧ 0 ≤ rdNum (gx (spl 32 l) 0) 40 ∧ 0 ≤ plr (gx (spl 32 l) 1)) && setB (tvN (spl 32 l) n) n
noncomputable def tvP (l : List UInt8) (n : Int) : Int := if tvOk l n = true then rdNum (gx (spl 32 l) 0) 40 else 0
noncomputable def tvO (l : List UInt8) (n : Int) : Int := if tvOk l n = true then plr (gx (spl 32 l) 1) else 0
noncomputable def tvX (l : List UInt8) (n : Int) : List Int := if tvOk l n = true then tvN (spl 32 l) n else []
theorem tv_no {l : List UInt8} {n : Int} (h : tvOk l n = false) : tvP l n = 0 ∧ tvO l n = 0 ∧ tvX l n = [] := by
  unfold tvP tvO tvX
  rw [h]
  exact ⟨rfl, rfl, rfl⟩
theorem tv_yes {l : List UInt8} {n : Int} (h : tvOk l n = true) : tvP l n = rdNum (gx (spl 32 l) 0) 40 ∧ tvO l n = plr (gx (spl 32 l) 1) ∧ tvX l n = tvN (spl 32 l) n := by
  unfold tvP tvO tvX
  rw [h]
  exact ⟨rfl, rfl, rfl⟩
theorem tvOk_no {l : List UInt8} {n : Int} (h : ¬ (1 ≤ n ∧ n ≤ 256 ∧ 3 ≤ (spl 32 l).length ∧ (spl 32 l).length ≤ 18 ∧ 0 ≤ rdNum (gx (spl 32 l) 0) 40 ∧ 0 ≤ plr (gx (spl 32 l) 1))) : tvOk l n = false := by
  unfold tvOk
  rw [decide_eq_false h]
  rfl
theorem tvOk_set {l : List UInt8} {n : Int} (h : setB (tvN (spl 32 l) n) n = false) : tvOk l n = false := by
  unfold tvOk
  rw [h, Bool.and_false]
theorem tvOk_of {l : List UInt8} {n : Int} (h : 1 ≤ n ∧ n ≤ 256 ∧ 3 ≤ (spl 32 l).length ∧ (spl 32 l).length ≤ 18 ∧ 0 ≤ rdNum (gx (spl 32 l) 0) 40 ∧ 0 ≤ plr (gx (spl 32 l) 1)) (h2 : setB (tvN (spl 32 l) n) n = true) : tvOk l n = true := by
  unfold tvOk
  rw [decide_eq_true h, h2]
  rfl
/-- the first failure -/
theorem tv_bad {l : List UInt8} {n : Int} {i : Nat} (hi : i + 2 < (spl 32 l).length) (h : ¬ setAt (tvN (spl 32 l) n) n i) : tvOk l n = false :=
  tvOk_set (setB_no rfl (by rw [tvN_len]; omega) h)
theorem gl_snoc {α : Type} {l : List α} {k : Nat} (h : k < l.length) : l.take (k + 1) = l.take k ++ [l[k]] := List.take_succ_eq_append_getElem h
theorem tvN_snoc {W : List (List UInt8)} {n : Int} {i : Nat} (h : i + 2 < W.length) : (tvN W n).take (i + 1) = (tvN W n).take i ++ [rdNum (gx W (i + 2)) (n - 1)] := by
  have h' : i < (tvN W n).length := by rw [tvN_len]; omega
  rw [gl_snoc h', ← gi_get h', tvN_gi h]
theorem rd_ok {x : List UInt8} {n : Int} : (rdOk x && decide (rdVal x < n)) = decide (0 ≤ rdNum x (n - 1)) := by
  cases h : rdOk x with
  | true =>
    rw [rdVal_ok h, Bool.true_and]
    unfold rdNum
    by_cases e : (dgVal x : Int) < n
    · rw [decide_eq_true e, if_pos ⟨h, by omega⟩, decide_eq_true (by omega)]
    · rw [decide_eq_false e, if_neg (fun k => e (by omega)), decide_eq_false (by omega)]
  | false =>
    rw [Bool.false_and]
    unfold rdNum
    rw [if_neg (fun k => by rw [h] at k; cases k.1), decide_eq_false (by omega)]
theorem rd_val {x : List UInt8} {n : Int} (h : 0 ≤ rdNum x n) : rdVal x = rdNum x n := by
  obtain ⟨_, h2, h3⟩ := rdNum_le h
  rw [rdVal_ok h3, h2]
theorem readNumberR (s : ByteArray) (n : Int) (w : World) :
    Calls Tryd.prog 64 #[.string s, .int .i64 n] w fun e w' => e = .returned (.tuple #[.int .i64 (rdVal s.data.toList), .bool (decide (0 ≤ rdNum s.data.toList (n - 1)))]) ∧ Qt w w' := by
  have h := readNumber s n w
  rw [rd_ok] at h
  exact h

set_option maxRecDepth 100000 in
set_option maxHeartbeats 3200000 in
theorem implTextVertex (s : ByteArray) (n : Int) (w : World) (B : Nat) (hB : B ≤ w.heap.size) (hP : PN w) (hM : Max w) (hs : s.size ≤ 4000000) :
    Calls Tryd.prog 26 #[.string s, .int .i64 n] w fun e w' => ∃ v, e = .returned (.tuple #[.int .i64 (tvP s.data.toList n), .int .i64 (tvO s.data.toList n), v, .bool (tvOk s.data.toList n)]) ∧ OI 2 w' B v (tvX s.data.toList n) ∧ Below B w w' := by
  have HZ := Lib.hid (Lib.size_eq s)
  have FAIL : ∀ (w' : World), tvOk s.data.toList n = false → Below B w w' → ∃ v', Ending.returned (.tuple #[.int .i64 0, .int .i64 0, .slice none 0 0, .bool false]) = .returned (.tuple #[.int .i64 (tvP s.data.toList n), .int .i64 (tvO s.data.toList n), v', .bool (tvOk s.data.toList n)]) ∧ OI 2 w' B v' (tvX s.data.toList n) ∧ Below B w w' := fun w' h hb => by
    obtain ⟨e1, e2, e3⟩ := tv_no h
    exact ⟨_, by rw [e1, e2, h], by rw [e3]; exact OI.nil _ _ _, hb⟩
  have HF := Lib.hid FAIL
  clear FAIL
  by_cases h1 : 1 ≤ n ∧ n ≤ 256
  · have HN := Lib.hid h1
    have hn1 := h1.1
    have hn2 := h1.2
    clear h1
    go_enter Tryd.func26, Tryd.ntmps26
    go_wp2_with fail
    refine (stringsSplit s 32 _ hM hs).mono ?_; rintro e w1 ⟨v, rfl, ho1, hb1⟩
    obtain ⟨A1, c1, rfl⟩ := ho1.form
    have hcap := ho1.reads.cap
    have htop := ho1.reads.top
    have HLn := Lib.hid (splT_len 32 s)
    have hs1 := hb1.size
    have hR := ho1.reads
    by_cases h3 : (splT 32 s).length < 3
    · have E := Lib.hid (tvOk_no (l := s.data.toList) (n := n) (fun h => by have := h.2.2.1; rw [← HLn.out] at this; omega))
      go_wp2
      refine bodyPost_ret (v := .tuple #[.int .i64 0, .int .i64 0, .slice none 0 0, .bool false]) (by simp [results, Tryd.results26, go_sem]) rfl ?_
      exact HF.out _ E.out (hb1.mono hB)
    by_cases h4 : 18 < (splT 32 s).length
    · have E := Lib.hid (tvOk_no (l := s.data.toList) (n := n) (fun h => by have := h.2.2.2.1; rw [← HLn.out] at this; omega))
      go_wp2
      refine bodyPost_ret (v := .tuple #[.int .i64 0, .int .i64 0, .slice none 0 0, .bool false]) (by simp [results, Tryd.results26, go_sem]) rfl ?_
      exact HF.out _ E.out (hb1.mono hB)
    obtain ⟨b, off, hA, hc0⟩ := hR.at_ (show 0 < (splT 32 s).length by omega)
    subst hA
    obtain ⟨b', off', hA', hc1⟩ := hR.at_ (show 1 < (splT 32 s).length by omega)
    injection hA' with hA'
    injection hA' with hb' ho'
    subst hb'; subst ho'
    rw [Nat.add_zero] at hc0
    have HG0 := Lib.hid (gtd 32 s 0)
    have HG1 := Lib.hid (gtd 32 s 1)
    have h4' : (splT 32 s).length ≤ 18 := by omega
    have h3' : 3 ≤ (splT 32 s).length := by omega
    have hP1 := hP.keep (keeps_below hb1)
    by_cases hp : 0 ≤ rdNum (gx (spl 32 s.data.toList) 0) 40
    · by_cases hq : 0 ≤ plr (gx (spl 32 s.data.toList) 1)
      · have HP0 := Lib.hid (show decide (0 ≤ rdNum (gx (spl 32 s.data.toList) 0) (41 - 1)) = true from decide_eq_true hp)
        have HQ0 := Lib.hid hq
        have HPV := Lib.hid (rd_val hp)
        have HPP := Lib.hid hp
        clear hp
        have hc2' : 2 < c1 := by omega
        go_wp2_with (first
          | (go_at_call 64; refine (readNumberR _ _ _).mono ?_; rintro e w2 ⟨rfl, q2, rfl⟩; rw [HG0.out, HP0.out, HPV.out])
          | (go_at_call 65; refine (playerOf _ _ (by exact hP1)).mono ?_; rintro e w3 ⟨rfl, q3, rfl⟩; rw [HG1.out]))
        have hw3 : Below w.heap.size w (w1.drewN (q2 + q3)) := below_drewN hb1 _
        go_loopw [12, 54] (fun v i wr => ∃ m : Nat, m + 2 ≤ (splT 32 s).length ∧ i = .int .i64 (m : Int) ∧ (∀ j, j < m → 0 ≤ gi (tvN (spl 32 s.data.toList) n) j) ∧ OI 2 wr w1.heap.size v ((tvN (spl 32 s.data.toList) n).take m) ∧ Below w.heap.size w wr ∧ w1.heap.size ≤ wr.heap.size ∧ OS wr w.heap.size (.slice (some ⟨b, off, none⟩) (splT 32 s).length c1) (splT 32 s)) (fun _ i _ => (splT 32 s).length - (intOf i).toNat)
        case atStart =>
          have hx : Below w1.heap.size w1 ((w1.drewN (q2 + q3)).alloc (.cells #[] 2)) := below_alloc (Nat.le_refl _) (below_drewN (Below.refl _ _) _)
          exact ⟨0, by omega, rfl, by omega, OI.empty (w := w1.drewN (q2 + q3)) (Nat.le_refl _), below_alloc (Nat.le_refl _) hw3, by simp, ho1.below hx⟩
        case round =>
          obtain ⟨m, hm, rfl, hall, ho, hbr, hz1, hrr⟩ := hrel
          have hsz := hbr.size
          have HA := Lib.hid hall
          clear hall
          have hml : ((tvN (spl 32 s.data.toList) n).take m).length = m := by rw [List.length_take, tvN_len, ← HLn.out]; omega
          by_cases hlt : m + 2 < (splT 32 s).length
          · obtain ⟨b2, off2, hA2, hcm⟩ := (OS.reads hrr).at_ hlt
            injection hA2 with hA2
            injection hA2 with hb2 ho2
            subst hb2; subst ho2
            have HG := Lib.hid (gtd 32 s (m + 2))
            have hlW : m + 2 < (spl 32 s.data.toList).length := by rw [← HLn.out]; exact hlt
            have HU := Lib.hid (tvN_gi (n := n) hlW)
            have HS := Lib.hid (tvN_snoc (n := n) hlW)
            have HBad := Lib.hid (fun h => tv_bad (n := n) hlW h)
            have hcm2 : wr.cell? ⟨b, off + 2 + m, none⟩ = some (.string (gt (splT 32 s) (m + 2))) := by rw [← hcm, show off + 2 + m = off + (m + 2) by omega]
            have hlt2 : m < (splT 32 s).length - 2 := by omega
            have hll : ((tvN (spl 32 s.data.toList) n).take m).length ≤ 4194304 := by rw [hml]; omega
            clear hlW hcm
            obtain ⟨Av, cv, rfl⟩ := ho.form
            rw [hml] at ho
            rw [hml]
            by_cases hu : 0 ≤ rdNum (gx (spl 32 s.data.toList) (m + 2)) (n - 1)
            · have HD := Lib.hid (show decide (0 ≤ rdNum (gx (spl 32 s.data.toList) (m + 2)) (n - 1)) = true from decide_eq_true hu)
              have HV := Lib.hid (rd_val hu)
              have HU0 := Lib.hid hu
              clear hu hml
              go_wp2_with (first
                | (go_at_call 64; refine (readNumberR _ _ _).mono ?_; rintro e w4 ⟨rfl, q4, rfl⟩; rw [HG.out, HD.out, HV.out])
                | (at_builtin; refine wpList_pushI rfl (.tmp 66) (.tmp 68) rfl (wr.drewN q4) w1.heap.size (.slice Av m cv) ((tvN (spl 32 s.data.toList) n).take m) rfl ho _ rfl hll hz1 ?_; intro v' w5 ho5 hb5 hc5 hv5))
              have hb5' : Below w.heap.size w w5 := (below_drewN hbr q4).trans (hb5.mono hs1)
              go_roundw
              case rel =>
                refine ⟨m + 1, by omega, by go_num, all_succ HA.out (by rw [HU.out]; exact HU0.out), by rw [HS.out]; exact ho5, hb5', Nat.le_trans hz1 hb5.size, ?_⟩
                exact row_chg (w := wr.drewN q4) hrr hc5 (fun x hx e => own_ne hrr ho (by decide) x hx e)
              case measure => simp [intOf]; omega
            · have E := Lib.hid (HBad.out (fun h => hu (by have := h.1; rw [HU.out] at this; exact this)))
              have HD := Lib.hid (show decide (0 ≤ rdNum (gx (spl 32 s.data.toList) (m + 2)) (n - 1)) = false from decide_eq_false hu)
              clear hu hml
              go_wp2_with (go_at_call 64; refine (readNumberR _ _ _).mono ?_; rintro e w4 ⟨rfl, q4, rfl⟩; rw [HG.out, HD.out])
              refine bodyPost_ret (v := .tuple #[.int .i64 0, .int .i64 0, .slice none 0 0, .bool false]) (by simp [results, Tryd.results26, go_sem]) rfl ?_
              exact HF.out _ E.out ((below_drewN hbr q4).mono hB)
          · have hlt2 : ¬ m < (splT 32 s).length - 2 := by omega
            have HT : Hid ((tvN (spl 32 s.data.toList) n).take m = tvN (spl 32 s.data.toList) n) := Lib.hid (List.take_of_length_le (by rw [tvN_len, ← HLn.out]; omega))
            rw [HT.out] at ho
            obtain ⟨Av, cv, rfl⟩ := ho.form
            cases hset : setB (tvN (spl 32 s.data.toList) n) n with
            | true =>
              have E := Lib.hid (tvOk_of (l := s.data.toList) (n := n) ⟨HN.out.1, HN.out.2, by rw [← HLn.out]; exact h3', by rw [← HLn.out]; exact h4', HPP.out, HQ0.out⟩ hset)
              have EY := Lib.hid (tv_yes E.out)
              have HSE := Lib.hid hset
              clear hset
              go_wp2_with (go_at_call 66; refine (isSet _ _ _ _ _ _ ho.reads).mono ?_; rintro e w4 ⟨rfl, q4, rfl⟩; rw [HSE.out])
              refine bodyPost_ret (v := .tuple #[.int .i64 (rdNum (gx (spl 32 s.data.toList) 0) 40), .int .i64 (plr (gx (spl 32 s.data.toList) 1)), .slice Av (tvN (spl 32 s.data.toList) n).length cv, .bool true]) (by simp [results, Tryd.results26, go_sem]) rfl ?_
              exact ⟨_, by rw [EY.out.1, EY.out.2.1, E.out], by rw [EY.out.2.2]; exact OI.more (w := wr.drewN q4) ho (Nat.le_trans hB hs1), (below_drewN hbr q4).mono hB⟩
            | false =>
              have E := Lib.hid (tvOk_set hset)
              have HSE := Lib.hid hset
              clear hset
              go_wp2_with (go_at_call 66; refine (isSet _ _ _ _ _ _ ho.reads).mono ?_; rintro e w4 ⟨rfl, q4, rfl⟩; rw [HSE.out])
              refine bodyPost_ret (v := .tuple #[.int .i64 0, .int .i64 0, .slice none 0 0, .bool false]) (by simp [results, Tryd.results26, go_sem]) rfl ?_
              exact HF.out _ E.out ((below_drewN hbr q4).mono hB)
      · have E := Lib.hid (tvOk_no (l := s.data.toList) (n := n) (fun h => hq h.2.2.2.2.2))
        have HP0 := Lib.hid (show decide (0 ≤ rdNum (gx (spl 32 s.data.toList) 0) (41 - 1)) = true from decide_eq_true hp)
        have hq' : plr (gx (spl 32 s.data.toList) 1) < 0 := by omega
        clear hq hp
        go_wp2_with (first
          | (go_at_call 64; refine (readNumberR _ _ _).mono ?_; rintro e w2 ⟨rfl, q2, rfl⟩; rw [HG0.out, HP0.out])
          | (go_at_call 65; refine (playerOf _ _ (by exact hP1)).mono ?_; rintro e w3 ⟨rfl, q3, rfl⟩; rw [HG1.out]))
        refine bodyPost_ret (v := .tuple #[.int .i64 0, .int .i64 0, .slice none 0 0, .bool false]) (by simp [results, Tryd.results26, go_sem]) rfl ?_
        exact HF.out _ E.out (below_drewN (hb1.mono hB) _)
    · have E := Lib.hid (tvOk_no (l := s.data.toList) (n := n) (fun h => hp h.2.2.2.2.1))
      have HP0 := Lib.hid (show decide (0 ≤ rdNum (gx (spl 32 s.data.toList) 0) (41 - 1)) = false from decide_eq_false hp)
      clear hp
      go_wp2_with (first
        | (go_at_call 64; refine (readNumberR _ _ _).mono ?_; rintro e w2 ⟨rfl, q2, rfl⟩; rw [HG0.out, HP0.out])
        | (go_at_call 65; refine (playerOf _ _ (by exact hP1)).mono ?_; rintro e w3 ⟨rfl, q3, rfl⟩; rw [HG1.out]))
      refine bodyPost_ret (v := .tuple #[.int .i64 0, .int .i64 0, .slice none 0 0, .bool false]) (by simp [results, Tryd.results26, go_sem]) rfl ?_
      exact HF.out _ E.out (below_drewN (hb1.mono hB) _)
  · have E := Lib.hid (tvOk_no (l := s.data.toList) (n := n) (fun h => h1 ⟨h.1, h.2.1⟩))
    have hc : (n < 1 ∧ (0 : Int) ≤ (s.size : Int)) ∨ (1 ≤ n ∧ 256 < n) := by omega
    clear h1
    rcases hc with ⟨hc1, hc2⟩ | ⟨hc1, hc2⟩
    all_goals
      go_enter Tryd.func26, Tryd.ntmps26
      go_wp2
      refine bodyPost_ret (v := .tuple #[.int .i64 0, .int .i64 0, .slice none 0 0, .bool false]) (by simp [results, Tryd.results26, go_sem]) rfl ?_
      exact HF.out _ E.out (Below.refl _ _)
end Go.Proofs.YtkhkdnmpbfmmeaaDoor
