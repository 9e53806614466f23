/- Arenas: whether one is in order; spec.ArenaOk, impl.ArenaOk. -/
import Derived.Test.YtkhkdnmpbfmmeaaDoorPar
import Derived.Test.YtkhkdnmpbfmmeaaDoorFn6
import Derived.Test.YtkhkdnmpbfmmeaaDoorPush
namespace Go.Proofs.YtkhkdnmpbfmmeaaDoor
open Go.RowKit

abbrev ArD := List Int × List (List Int)
noncomputable def vOk (o : List Int) (n : List (List Int)) (v : Nat) : Bool := inR (gi o v) 0 1 && (decide (1 ≤ (gl n v).length ∧ (gl n v).length ≤ 16) && setB (gl n v) o.length)
noncomputable def arB (o : List Int) (n : List (List Int)) : Bool := decide (1 ≤ o.length ∧ o.length ≤ 256 ∧ n.length = o.length) && (List.range o.length).all (vOk o n)
theorem arB_iff {o : List Int} {n : List (List Int)} : arB o n = true ↔ (1 ≤ o.length ∧ o.length ≤ 256 ∧ n.length = o.length) ∧ ∀ v, v < o.length → vOk o n v = true := by
  unfold arB
  rw [Bool.and_eq_true, List.all_eq_true, decide_eq_true_iff]
  simp [List.mem_range]
theorem vOk_iff {o : List Int} {n : List (List Int)} {v : Nat} : vOk o n v = true ↔ (0 ≤ gi o v ∧ gi o v ≤ 1) ∧ (1 ≤ (gl n v).length ∧ (gl n v).length ≤ 16) ∧ setB (gl n v) o.length = true := by
  unfold vOk inR
  rw [Bool.and_eq_true, Bool.and_eq_true, decide_eq_true_iff, decide_eq_true_iff]
theorem arB_size {o : List Int} {n : List (List Int)} {k : Nat} (hl : o.length = k) (h : ¬ (1 ≤ k ∧ k ≤ 256 ∧ n.length = k)) : arB o n = false := by
  cases e : arB o n with
  | false => rfl
  | true => exact absurd (hl ▸ (arB_iff.1 e).1) h
theorem arB_no {o : List Int} {n : List (List Int)} {k v : Nat} (hl : o.length = k) (hv : v < k) (h : ¬ vOk o n v = true) : arB o n = false := by
  cases e : arB o n with
  | false => rfl
  | true => exact absurd ((arB_iff.1 e).2 v (by omega)) h
theorem arB_of {o : List Int} {n : List (List Int)} {k : Nat} (hl : o.length = k) (h1 : 1 ≤ k ∧ k ≤ 256 ∧ n.length = k) (h : ∀ v, v < k → vOk o n v = true) : arB o n = true := arB_iff.2 ⟨by rw [hl]; exact h1, fun v hv => h v (by omega)⟩
theorem Box.d0 {w : World} {b : Nat} {t : TypeId} {x0 x1 : Value} (h : Box w b t #[x0, x1]) : w.cell? ⟨b, 0, none⟩ = some x0 := h.cell 0
theorem Box.d1 {w : World} {b : Nat} {t : TypeId} {x0 x1 : Value} (h : Box w b t #[x0, x1]) : w.cell? ⟨b, 1, none⟩ = some x1 := h.cell 1

set_option maxRecDepth 100000 in
set_option maxHeartbeats 800000 in
theorem specArenaOk (A0 A1 : Option Addr) (n0 c0 n1 c1 : Nat) (o : List Int) (n : List (List Int)) (w : World) (B : Nat) (hB : B ≤ w.heap.size) (ha : RI w A0 n0 c0 o) (hb : RII w A1 n1 c1 n) :
    Calls Tryd.prog 92 #[.agg #[.slice A0 n0 c0, .slice A1 n1 c1]] w fun e w' => e = .returned (.bool (arB o n)) ∧ Below B w w' := by
  have b1 := ha.cap; have b2 := ha.top; have b3 := hb.cap; have b4 := hb.top
  have HL := Lib.hid ha.len; have HM := Lib.hid hb.len
  have hba : Below w.heap.size w (w.alloc (.cells #[.slice A0 n0 c0, .slice A1 n1 c1] 52)) := below_alloc (Nat.le_refl _) (Below.refl _ _)
  have q0 := (Box.new w 52 #[.slice A0 n0 c0, .slice A1 n1 c1]).d0
  have q1 := (Box.new w 52 #[.slice A0 n0 c0, .slice A1 n1 c1]).d1
  replace ha := ha.keep (keeps_below hba); replace hb := hb.keep (keeps_below hba)
  cases h1 : inR (n0 : Int) 1 256 with
  | false =>
    have E := Lib.hid (arB_size (n := n) HL.out (fun h => by have := of_decide_eq_false h1; omega))
    go_enter Tryd.func92, Tryd.ntmps92
    go_wp2_with (go_at_call 61; refine (l1In _ _ _ _).mono ?_; rintro e w' ⟨rfl, q, rfl⟩)
    go_ret
    exact ⟨ret_b E.out.symm, below_drewN (hba.mono hB) _⟩
  | true =>
    have hn := of_decide_eq_true h1
    by_cases h2 : n1 = n0
    · subst h2
      have hne : ((n1 : Int) != (n1 : Int)) = false := by simp
      have hn1 := hn.1; have hn2 := hn.2
      have HS := Lib.hid (show 1 ≤ n1 ∧ n1 ≤ 256 ∧ n.length = n1 from ⟨by omega, by omega, HM.out⟩)
      go_enter Tryd.func92, Tryd.ntmps92
      go_wp2_with (go_at_call 61; refine (l1In _ _ _ _).mono ?_; rintro e w' ⟨rfl, q, rfl⟩)
      go_loopw [4] (fun i wr => ∃ k : Nat, k ≤ n1 ∧ i = .int .i64 k ∧ (∀ j, j < k → vOk o n j = true) ∧ ∃ q, wr = (w.alloc (.cells #[.slice A0 n1 c0, .slice A1 n1 c1] 52)).drewN q) (fun i _ => n1 - (intOf i).toNat)
      case atStart => exact ⟨0, Nat.zero_le _, rfl, by omega, _, rfl⟩
      case round =>
        obtain ⟨k, hk, rfl, hall, q, rfl⟩ := hrel
        have HA := Lib.hid hall; clear hall
        by_cases hlt : k < n1
        · obtain ⟨bb, off, rfl, hc⟩ := ha.at_ hlt
          obtain ⟨b2, off2, A2, n2, c2, rfl, hc2, r2⟩ := hb.at_ hlt
          have hki : (k : Int) < (n1 : Int) := by omega
          have hk0 : (0 : Int) ≤ (k : Int) := by omega
          have bn2 := r2.cap; have bt2 := r2.top
          have hbad : ¬ vOk o n k = true → arB o n = false := arB_no HL.out hlt
          have HL2 := Lib.hid r2.len
          have HV := Lib.hid (vOk_iff (o := o) (n := n) (v := k))
          cases h3 : inR (gi o k) 0 1 with
          | false =>
            have E := Lib.hid (hbad (fun h => by have h5 := HV.out.1 h; rw [HL2.out] at h5; have := of_decide_eq_false h3; omega))
            clear hbad
            go_wp2_with (first | (go_at_call 61; refine (l1In _ _ _ _).mono ?_; rintro e w' ⟨rfl, q1, rfl⟩))
            go_ret
            exact ⟨ret_b E.out.symm, by first | exact below_drewN (hba.mono hB) _ | exact below_drewN (below_drewN (hba.mono hB) _) _⟩
          | true =>
            have h3v := of_decide_eq_true h3
            by_cases h4 : n2 < 1
            · have h4i : (n2 : Int) < 1 := by omega
              have E := Lib.hid (hbad (fun h => by have h5 := HV.out.1 h; rw [HL2.out] at h5; omega))
              clear hbad
              go_wp2_with (first | (go_at_call 61; refine (l1In _ _ _ _).mono ?_; rintro e w' ⟨rfl, q1, rfl⟩))
              go_ret
              exact ⟨ret_b E.out.symm, by first | exact below_drewN (hba.mono hB) _ | exact below_drewN (below_drewN (hba.mono hB) _) _⟩
            by_cases h5 : 16 < n2
            · have h4i : (1 : Int) ≤ (n2 : Int) := by omega
              have h5i : (16 : Int) < (n2 : Int) := by omega
              have E := Lib.hid (hbad (fun h => by have h5 := HV.out.1 h; rw [HL2.out] at h5; omega))
              clear hbad
              go_wp2_with (first | (go_at_call 61; refine (l1In _ _ _ _).mono ?_; rintro e w' ⟨rfl, q1, rfl⟩))
              go_ret
              exact ⟨ret_b E.out.symm, by first | exact below_drewN (hba.mono hB) _ | exact below_drewN (below_drewN (hba.mono hB) _) _⟩
            have h4i : (1 : Int) ≤ (n2 : Int) := by omega
            have h5i : (n2 : Int) ≤ 16 := by omega
            have HLO := Lib.hid (show (o.length : Int) = (n1 : Int) by rw [HL.out])
            cases h6 : setB (gl n k) (n1 : Int) with
            | false =>
              have E := Lib.hid (hbad (fun h => by have h5 := (HV.out.1 h).2.2; rw [HLO.out, h6] at h5; exact absurd h5 (by simp)))
              clear hbad
              go_wp2_with (first | (go_at_call 61; refine (l1In _ _ _ _).mono ?_; rintro e w' ⟨rfl, q1, rfl⟩) | (go_at_call 109; refine (l1Set _ _ _ (gl n k) _ _ (r2.keep (Qt.keeps ⟨_, rfl⟩)) (by omega) (by omega)).mono ?_; rintro e w' ⟨rfl, q2, rfl⟩))
              go_ret
              exact ⟨ret_b E.out.symm, by first | exact below_drewN (hba.mono hB) _ | exact below_drewN (below_drewN (hba.mono hB) _) _⟩
            | true =>
              have H := Lib.hid (show vOk o n k = true from HV.out.2 ⟨h3v, by rw [HL2.out]; omega, by rw [HLO.out]; exact h6⟩)
              clear hbad
              go_wp2_with (first | (go_at_call 61; refine (l1In _ _ _ _).mono ?_; rintro e w' ⟨rfl, q1, rfl⟩) | (go_at_call 109; refine (l1Set _ _ _ (gl n k) _ _ (r2.keep (Qt.keeps ⟨_, rfl⟩)) (by omega) (by omega)).mono ?_; rintro e w' ⟨rfl, q2, rfl⟩))
              go_roundw
              case rel => exact ⟨k + 1, by omega, by go_num, all_succ HA.out H.out, _, rfl⟩
              case measure => simp [intOf]; omega
        · obtain rfl : k = n1 := by omega
          have E := Lib.hid (arB_of HL.out HS.out HA.out)
          go_wp2
          go_ret
          exact ⟨ret_b E.out.symm, below_drewN (hba.mono hB) _⟩
    · have E := Lib.hid (arB_size (n := n) HL.out (fun h => h2 (by rw [← HM.out]; exact h.2.2)))
      have hne : ((n1 : Int) != (n0 : Int)) = true := by simp; omega
      have hn1 := hn.1; have hn2 := hn.2
      go_enter Tryd.func92, Tryd.ntmps92
      go_wp2_with (go_at_call 61; refine (l1In _ _ _ _).mono ?_; rintro e w' ⟨rfl, q, rfl⟩)
      go_ret
      exact ⟨ret_b E.out.symm, below_drewN (hba.mono hB) _⟩

set_option maxRecDepth 100000 in
set_option maxHeartbeats 800000 in
theorem implArenaOk (A0 A1 : Option Addr) (n0 c0 n1 c1 : Nat) (o : List Int) (n : List (List Int)) (w : World) (B : Nat) (hB : B ≤ w.heap.size) (ha : RI w A0 n0 c0 o) (hb : RII w A1 n1 c1 n) :
    Calls Tryd.prog 95 #[.agg #[.slice A0 n0 c0, .slice A1 n1 c1]] w fun e w' => e = .returned (.bool (arB o n)) ∧ Below B w w' := by
  have b1 := ha.cap; have b2 := ha.top; have b3 := hb.cap; have b4 := hb.top
  have HL := Lib.hid ha.len; have HM := Lib.hid hb.len
  have hba : Below w.heap.size w (w.alloc (.cells #[.slice A0 n0 c0, .slice A1 n1 c1] 52)) := below_alloc (Nat.le_refl _) (Below.refl _ _)
  have q0 := (Box.new w 52 #[.slice A0 n0 c0, .slice A1 n1 c1]).d0
  have q1 := (Box.new w 52 #[.slice A0 n0 c0, .slice A1 n1 c1]).d1
  replace ha := ha.keep (keeps_below hba); replace hb := hb.keep (keeps_below hba)
  by_cases g1 : n0 < 1
  · have E := Lib.hid (arB_size (n := n) HL.out (fun h => by omega))
    have g1i : (n0 : Int) < 1 := by omega
    go_enter Tryd.func95, Tryd.ntmps95
    go_wp2
    go_ret
    exact ⟨ret_b E.out.symm, hba.mono hB⟩
  by_cases g2 : 256 < n0
  · have E := Lib.hid (arB_size (n := n) HL.out (fun h => by omega))
    have g1i : (1 : Int) ≤ (n0 : Int) := by omega
    have g2i : (256 : Int) < (n0 : Int) := by omega
    go_enter Tryd.func95, Tryd.ntmps95
    go_wp2
    go_ret
    exact ⟨ret_b E.out.symm, hba.mono hB⟩
  have hn : (1 : Int) ≤ (n0 : Int) ∧ (n0 : Int) ≤ 256 := by omega
  by_cases h2 : n1 = n0
  · subst h2
    have hne : ((n1 : Int) != (n1 : Int)) = false := by simp
    have hn1 := hn.1; have hn2 := hn.2
    have HS := Lib.hid (show 1 ≤ n1 ∧ n1 ≤ 256 ∧ n.length = n1 from ⟨by omega, by omega, HM.out⟩)
    go_enter Tryd.func95, Tryd.ntmps95
    go_wp2
    go_loopw [25] (fun i wr => ∃ k : Nat, k ≤ n1 ∧ i = .int .i64 k ∧ (∀ j, j < k → vOk o n j = true) ∧ ∃ q, wr = (w.alloc (.cells #[.slice A0 n1 c0, .slice A1 n1 c1] 52)).drewN q) (fun i _ => n1 - (intOf i).toNat)
    case atStart => exact ⟨0, Nat.zero_le _, rfl, by omega, 0, rfl⟩
    case round =>
      obtain ⟨k, hk, rfl, hall, q, rfl⟩ := hrel
      have HA := Lib.hid hall; clear hall
      by_cases hlt : k < n1
      · obtain ⟨bb, off, rfl, hc⟩ := ha.at_ hlt
        obtain ⟨b2, off2, A2, n2, c2, rfl, hc2, r2⟩ := hb.at_ hlt
        have hki : (k : Int) < (n1 : Int) := by omega
        have hk0 : (0 : Int) ≤ (k : Int) := by omega
        have bn2 := r2.cap; have bt2 := r2.top
        have hbad : ¬ vOk o n k = true → arB o n = false := arB_no HL.out hlt
        have HL2 := Lib.hid r2.len
        have HV := Lib.hid (vOk_iff (o := o) (n := n) (v := k))
        by_cases h3a : gi o k < 0
        · 
          have E := Lib.hid (hbad (fun h => by have h5 := HV.out.1 h; rw [HL2.out] at h5; omega))
          clear hbad
          go_wp2
          go_ret
          exact ⟨ret_b E.out.symm, by first | exact below_drewN (hba.mono hB) _ | exact below_drewN (below_drewN (hba.mono hB) _) _⟩
        by_cases h3b : 1 < gi o k
        · 
          have E := Lib.hid (hbad (fun h => by have h5 := HV.out.1 h; rw [HL2.out] at h5; omega))
          clear hbad
          go_wp2
          go_ret
          exact ⟨ret_b E.out.symm, by first | exact below_drewN (hba.mono hB) _ | exact below_drewN (below_drewN (hba.mono hB) _) _⟩
        have h3v : 0 ≤ gi o k ∧ gi o k ≤ 1 := by omega
        have h3c := h3v.1; have h3d := h3v.2
        by_cases h4 : n2 < 1
        · have h4i : (n2 : Int) < 1 := by omega
          have E := Lib.hid (hbad (fun h => by have h5 := HV.out.1 h; rw [HL2.out] at h5; omega))
          clear hbad
          go_wp2
          go_ret
          exact ⟨ret_b E.out.symm, by first | exact below_drewN (hba.mono hB) _ | exact below_drewN (below_drewN (hba.mono hB) _) _⟩
        by_cases h5 : 16 < n2
        · have h4i : (1 : Int) ≤ (n2 : Int) := by omega
          have h5i : (16 : Int) < (n2 : Int) := by omega
          have E := Lib.hid (hbad (fun h => by have h5 := HV.out.1 h; rw [HL2.out] at h5; omega))
          clear hbad
          go_wp2
          go_ret
          exact ⟨ret_b E.out.symm, by first | exact below_drewN (hba.mono hB) _ | exact below_drewN (below_drewN (hba.mono hB) _) _⟩
        have h4i : (1 : Int) ≤ (n2 : Int) := by omega
        have h5i : (n2 : Int) ≤ 16 := by omega
        have HLO := Lib.hid (show (o.length : Int) = (n1 : Int) by rw [HL.out])
        cases h6 : setB (gl n k) (n1 : Int) with
        | false =>
          have E := Lib.hid (hbad (fun h => by have h5 := (HV.out.1 h).2.2; rw [HLO.out, h6] at h5; exact absurd h5 (by simp)))
          clear hbad
          go_wp2_with (first | (go_at_call 66; refine (isSet _ _ _ (gl n k) _ _ (r2.keep (Qt.keeps ⟨_, rfl⟩))).mono ?_; rintro e w' ⟨rfl, q2, rfl⟩))
          go_ret
          exact ⟨ret_b E.out.symm, by first | exact below_drewN (hba.mono hB) _ | exact below_drewN (below_drewN (hba.mono hB) _) _⟩
        | true =>
          have H := Lib.hid (show vOk o n k = true from HV.out.2 ⟨h3v, by rw [HL2.out]; omega, by rw [HLO.out]; exact h6⟩)
          clear hbad
          go_wp2_with (first | (go_at_call 66; refine (isSet _ _ _ (gl n k) _ _ (r2.keep (Qt.keeps ⟨_, rfl⟩))).mono ?_; rintro e w' ⟨rfl, q2, rfl⟩))
          go_roundw
          case rel => exact ⟨k + 1, by omega, by go_num, all_succ HA.out H.out, _, rfl⟩
          case measure => simp [intOf]; omega
      · obtain rfl : k = n1 := by omega
        have E := Lib.hid (arB_of HL.out HS.out HA.out)
        go_wp2
        go_ret
        exact ⟨ret_b E.out.symm, below_drewN (hba.mono hB) _⟩
  · have E := Lib.hid (arB_size (n := n) HL.out (fun h => h2 (by rw [← HM.out]; exact h.2.2)))
    have hne : ((n1 : Int) != (n0 : Int)) = true := by simp; omega
    have hn1 := hn.1; have hn2 := hn.2
    go_enter Tryd.func95, Tryd.ntmps95
    go_wp2
    go_ret
    exact ⟨ret_b E.out.symm, hba.mono hB⟩

theorem implSize (A0 A1 : Option Addr) (n0 c0 n1 c1 : Nat) (w : World) (B : Nat) (hB : B ≤ w.heap.size) (_h : n0 ≤ 9223372036854775807) :
    Calls Tryd.prog 79 #[.agg #[.slice A0 n0 c0, .slice A1 n1 c1]] w fun e w' => e = .returned (.int .i64 (n0 : Int)) ∧ Below B w w' := by
  have q0 := (Box.new w 52 #[.slice A0 n0 c0, .slice A1 n1 c1]).d0
  go_enter Tryd.func79, Tryd.ntmps79
  go_wp2
  go_ret
  exact ⟨rfl, below_alloc hB (Below.refl _ _)⟩
end Go.Proofs.YtkhkdnmpbfmmeaaDoor
