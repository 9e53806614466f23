/- l15Least; StayPlan, spec and impl. -/
import Derived.Test.YtfjhkjikfjpnpaaPlan
import Derived.Test.YtfjhkjikfjpnpaaStay
import Derived.Test.YtfjhkjikfjpnpaaArenaL
namespace Go.Proofs.Ytfjhkjikfjpnpaa
open Go.RowKit

theorem firstU_stay {al : Nat → Bool} {ns : List Int} {k : Nat} (h : 0 ≤ firstU al ns k) : ∀ d, firstU al ns (k + d) = firstU al ns k
  | 0 => rfl
  | d + 1 => by rw [← Nat.add_assoc, firstU, firstU_stay h d, if_neg (by omega)]
theorem firstU_at {al : Nat → Bool} {ns : List Int} {k m : Nat} (hm : gi ns k = (m : Int)) (h : firstU al ns k < 0) : firstU al ns (k + 1) = if al m = true then (m : Int) else -1 := by
  rw [firstU, if_pos h, hm]; rfl
set_option maxRecDepth 100000 in
set_option maxHeartbeats 1600000 in
theorem l15Least (A0 A1 D T : Option Addr) (n0 c0 n1 c1 m d m2 d2 : Nat) (o : List Int) (n : List (List Int)) (who : Int) (ms ts : List Bool) (w : World) (B : Nat) (hB : B ≤ w.heap.size) (ha : RI w A0 n0 c0 o) (hb : RII w A1 n1 c1 n) (hm : RB w D m d ms) (ht : RB w T m2 d2 ts) (hf : fineAr o n) (hml : m = n0) (hml2 : m2 = n0) :
    Calls Try.prog 124 #[.agg #[.slice A0 n0 c0, .slice A1 n1 c1], .int .i64 who, .slice D m d, .slice T m2 d2] w fun e w' => ∃ v, e = .returned v ∧ OI 2 w' B v (planL o n who ms (fun _ u => gb ts u)) ∧ Below B w w' := by
  have HML := Lib.hid hml; have HML2 := Lib.hid hml2
  clear hml hml2
  have b1 := ha.cap; have b2 := ha.top; have b3 := hb.cap; have b4 := hb.top; have b5 := hm.cap; have b6 := hm.top; have b7 := ht.cap; have b8 := ht.top
  have HL := Lib.hid ha.len; have HM := Lib.hid hb.len
  have hn0 : n0 ≤ 1048576 := by have := hf.2.1; rw [HL.out] at this; omega
  have h01 : n1 = n0 := by rw [← HM.out, hf.2.2.1, HL.out]
  have HF := Lib.hid hf
  clear hf
  have H01 := Lib.hid h01; clear h01
  have hba : Below w.heap.size w ((w.alloc (.cells #[.slice A0 n0 c0, .slice A1 n1 c1] 42)).alloc (.cells #[] 2)) := below_alloc (Nat.le_refl _) (below_alloc (Nat.le_refl _) (Below.refl _ _))
  have bx := (Box.new w 42 #[.slice A0 n0 c0, .slice A1 n1 c1]).alloc (.cells #[] 2)
  have hem : OI 2 ((w.alloc (.cells #[.slice A0 n0 c0, .slice A1 n1 c1] 42)).alloc (.cells #[] 2)) (w.heap.size + 1) (.slice (some ⟨w.heap.size + 1, 0, none⟩) 0 0) [] := by
    have := OI.empty (E := 2) (w := w.alloc (.cells #[.slice A0 n0 c0, .slice A1 n1 c1] 42)) (B := w.heap.size + 1) (by simp)
    simpa using this
  go_enter Try.func124, Try.ntmps124
  go_wp2
  go_loopw [9, 10] (fun x i wr => ∃ k : Nat, k ≤ n0 ∧ i = .int .i64 k ∧ OI 2 wr (w.heap.size + 1) x (fill (leastV o n who ms (fun _ u => gb ts u)) k) ∧ Box wr w.heap.size 42 #[.slice A0 n0 c0, .slice A1 n1 c1] ∧ Below w.heap.size w wr) (fun _ i _ => n0 - (intOf i).toNat)
  case atStart => exact ⟨0, Nat.zero_le _, rfl, hem, bx, hba⟩
  case round =>
    obtain ⟨wo, rfl⟩ : ∃ wo : World, wo = wr := ⟨_, rfl⟩
    obtain ⟨k, hk, rfl, ho, bxr, hbr⟩ := hrel
    obtain ⟨Av, cv, rfl⟩ := ho.form
    have HO := Lib.hid ho
    have hfl := fill_len (leastV o n who ms (fun _ u => gb ts u)) k
    have HFL := Lib.hid hfl
    have q0 := bxr.d0; have q1 := bxr.d1
    have hsz : w.heap.size + 1 ≤ wo.heap.size := by have := bxr.lt; omega
    clear ho hba bx hem hfl
    by_cases hlt0 : k < n0
    · have hlt : k < n1 := by have := H01.out; omega
      obtain ⟨ba, oa, rfl, hcA⟩ := (ha.keep (keeps_below hbr)).at_ hlt0
      obtain ⟨bn, on, An, nn, cn, rfl, hcN, rn⟩ := (hb.keep (keeps_below hbr)).at_ hlt
      obtain ⟨bm, om, rfl, hcM⟩ := (hm.keep (keeps_below hbr)).at_ (i := k) (by rw [HML.out]; exact hlt0)
      obtain ⟨_, ⟨hd1, hd2⟩, hset⟩ := HF.out.2.2.2 k (by rw [HL.out]; exact hlt0)
      rw [HL.out] at hset
      rw [rn.len] at hd1 hd2
      have HN := Lib.hid rn.len
      have HSET := Lib.hid hset; clear hset
      have bn1 := rn.cap; have bn2 := rn.top
      have hkm : k < m := by rw [HML.out]; exact hlt0
      have hki : (k : Int) < (n0 : Int) := by omega
      have hki1 : (k : Int) < (n1 : Int) := by omega
      have hkim : (k : Int) < (m : Int) := by omega
      have hk0 : (0 : Int) ≤ (k : Int) := by omega
      have ht' := ht.keep (keeps_below hbr)
      have hlen : (fill (leastV o n who ms (fun _ u => gb ts u)) k).length ≤ 4194304 := by rw [HFL.out]; omega
      have HS := Lib.hid (fill_succ (leastV o n who ms (fun _ u => gb ts u)) k)
      by_cases hcond : gb ms k = true ∧ gi o k = who
      · have E := Lib.hid (show leastV o n who ms (fun _ u => gb ts u) k = firstU (fun u => gb ts u) (gl n k) nn by unfold leastV; rw [if_pos hcond, HN.out])
        obtain ⟨hg, hw⟩ := hcond
        rw [hg] at hcM
        have hne : (gi o k == who) = true := by simp [hw]
        clear hw hg
        go_wp2
        go_loopw [11, 12] (fun x i wr => ∃ (j : Nat) (p : Int), j ≤ nn ∧ i = .int .i64 j ∧ x = .int .i64 p ∧ p = firstU (fun u => gb ts u) (gl n k) j ∧ (p < 0 → p = -1) ∧ ∃ q, wr = wo.drewN q) (fun _ i _ => nn - (intOf i).toNat)
        case atStart => exact ⟨0, -1, Nat.zero_le _, rfl, rfl, rfl, fun _ => rfl, 0, rfl⟩
        case round =>
          obtain ⟨j, p, hj, rfl, rfl, hp, hpn, q, rfl⟩ := hrel
          have HP := Lib.hid hp; have HPN := Lib.hid hpn; clear hp hpn
          by_cases hjl : j < nn
          · have hji : (j : Int) < (nn : Int) := by omega
            have hj0 : (0 : Int) ≤ (j : Int) := by omega
            have d1 : decide ((j : Int) < (nn : Int)) = true := by simpa using hjl
            by_cases hp0 : p < 0
            · obtain ⟨u, hu, hun⟩ := set_nat HSET.out (show j < (gl n k).length by rw [HN.out]; exact hjl)
              obtain ⟨bu, ou, rfl, hcU⟩ := rn.at_ hjl
              obtain ⟨bt, ot, rfl, hcT⟩ := ht'.at_ (i := u) (by rw [HML2.out]; exact hun)
              have hut : (u : Int) < (m2 : Int) := by have := HML2.out; omega
              have X := Lib.hid (firstU_at (al := fun u => gb ts u) hu (by rw [← HP.out]; exact hp0))
              rw [hu] at hcU
              have X2 := Lib.hid (HPN.out hp0)
              clear hu
              cases hg2 : gb ts u with
              | true =>
                rw [hg2] at hcT
                have Y := Lib.hid (show firstU (fun u => gb ts u) (gl n k) (j + 1) = (u : Int) by rw [X.out, if_pos hg2])
                clear hg2
                go_wp2
                go_roundw
                case rel => exact ⟨j + 1, _, by omega, by go_num, rfl, by rw [Y.out], by omega, q, rfl⟩
                case measure => simp [intOf]; omega
              | false =>
                rw [hg2] at hcT
                have Y := Lib.hid (show firstU (fun u => gb ts u) (gl n k) (j + 1) = p by rw [X.out, if_neg (by rw [hg2]; simp), X2.out])
                clear hg2
                go_wp2
                go_roundw
                case rel => exact ⟨j + 1, p, by omega, by go_num, rfl, by rw [Y.out], HPN.out, q, rfl⟩
                case measure => simp [intOf]; omega
            · have Y := Lib.hid (show leastV o n who ms (fun _ u => gb ts u) k = p by
                rw [E.out, HP.out]
                have := firstU_stay (al := fun u => gb ts u) (ns := gl n k) (k := j) (by rw [← HP.out]; omega) (nn - j)
                rw [show j + (nn - j) = nn from by omega] at this
                exact this)
              have hp1 : 0 ≤ p := by omega
              go_wp2_with (at_builtin; refine wpList_pushI rfl (.tmp 69) (.tmp 71) rfl (wo.drewN q) (w.heap.size + 1) (.slice Av (fill (leastV o n who ms (fun _ u => gb ts u)) k).length cv) (fill (leastV o n who ms (fun _ u => gb ts u)) k) rfl (HO.out.drewN q) p rfl hlen hsz ?_; intro v2 w2 ho2 hb2 hc2 hat2)
              exact ⟨⟨k + 1, by omega, by go_num, by rw [HS.out, Y.out]; exact ho2, (bxr.drewN q).below hb2 (by omega), (below_drewN hbr q).trans (hb2.mono (by omega))⟩, by simp [intOf]; omega⟩
          · obtain rfl : j = nn := by omega
            have d1 : decide ((j : Int) < (j : Int)) = false := by simp
            have Y := Lib.hid (show leastV o n who ms (fun _ u => gb ts u) k = p by rw [E.out, HP.out])
            go_wp2_with (at_builtin; refine wpList_pushI rfl (.tmp 69) (.tmp 71) rfl (wo.drewN q) (w.heap.size + 1) (.slice Av (fill (leastV o n who ms (fun _ u => gb ts u)) k).length cv) (fill (leastV o n who ms (fun _ u => gb ts u)) k) rfl (HO.out.drewN q) p rfl hlen hsz ?_; intro v2 w2 ho2 hb2 hc2 hat2)
            exact ⟨⟨k + 1, by omega, by go_num, by rw [HS.out, Y.out]; exact ho2, (bxr.drewN q).below hb2 (by omega), (below_drewN hbr q).trans (hb2.mono (by omega))⟩, by simp [intOf]; omega⟩
      · have Y := Lib.hid (show leastV o n who ms (fun _ u => gb ts u) k = -1 from if_neg hcond)
        have hnn : (0 : Int) < (nn : Int) := by omega
        have d1 : decide ((0 : Int) < (nn : Int)) = true := by simpa using hnn
        cases hg : gb ms k with
        | false =>
          rw [hg] at hcM
          clear hcond
          go_wp2
          refine wp_loop_rounds 1 ?_
          rw [rounds_succ]
          go_wp2_with (at_builtin; refine wpList_pushI rfl (.tmp 69) (.tmp 71) rfl wo (w.heap.size + 1) (.slice Av (fill (leastV o n who ms (fun _ u => gb ts u)) k).length cv) (fill (leastV o n who ms (fun _ u => gb ts u)) k) rfl HO.out (-1) rfl hlen hsz ?_; intro v2 w2 ho2 hb2 hc2 hat2)
          exact ⟨⟨k + 1, by omega, by go_num, by rw [HS.out, Y.out]; exact ho2, bxr.below hb2 (by omega), hbr.trans (hb2.mono (by omega))⟩, by simp [intOf]; omega⟩
        | true =>
          have hne : (gi o k == who) = false := by
            simp only [hg, true_and] at hcond
            simpa using hcond
          rw [hg] at hcM
          clear hcond
          go_wp2
          refine wp_loop_rounds 1 ?_
          rw [rounds_succ]
          go_wp2_with (at_builtin; refine wpList_pushI rfl (.tmp 69) (.tmp 71) rfl wo (w.heap.size + 1) (.slice Av (fill (leastV o n who ms (fun _ u => gb ts u)) k).length cv) (fill (leastV o n who ms (fun _ u => gb ts u)) k) rfl HO.out (-1) rfl hlen hsz ?_; intro v2 w2 ho2 hb2 hc2 hat2)
          exact ⟨⟨k + 1, by omega, by go_num, by rw [HS.out, Y.out]; exact ho2, bxr.below hb2 (by omega), hbr.trans (hb2.mono (by omega))⟩, by simp [intOf]; omega⟩
    · obtain rfl : k = n0 := by omega
      have Y := Lib.hid (show fill (leastV o n who ms (fun _ u => gb ts u)) k = planL o n who ms (fun _ u => gb ts u) by unfold planL; rw [HL.out])
      go_wp2
      go_ret
      exact ⟨_, rfl, by rw [← Y.out]; exact HO.out.more (by omega), hbr.mono hB⟩
end Go.Proofs.Ytfjhkjikfjpnpaa
