/- markInt64SS, heldInt64SS. -/
import Derived.Test.YtfjhkjikfjpnpaaGrid
namespace Go.Proofs.Ytfjhkjikfjpnpaa
open Go.RowKit

/-- some row of the list lies in block b -/
def InL (cs : List Value) (b : Nat) : Prop := ∃ i, i < cs.length ∧ (gv cs i).ownBlock = some b

set_option maxHeartbeats 800000 in
theorem markGrid (A : Option Addr) (n c : Nat) (cs : List Value) (xs : List (List Int)) (k : Int) (w : World) (lo lo' : Nat)
    (hrow : w.ownsRow lo' 29 1 (.slice A n c) n cs) (hxs : xs.length = n) (hol : OL 2 w lo cs (gl xs)) (hdis : Dis cs) (hk0 : 0 ≤ k) (hk1 : k + tot xs ≤ 4611686018427387904) :
    Calls Try.prog 131 #[.slice A n c, .int .i64 k] w fun e w' => e = .returned (.int .i64 (k + tot xs)) ∧ w'.ownsRow lo' 29 1 (.slice A n c) n cs ∧ OL 2 w' lo cs (gl (mkL k xs)) ∧ Chg (InL cs) w w' := by
  have hr := RII.of_rows hxs hrow hol
  have b1 := hr.cap; have b2 := hr.top
  have hlen := row_len hrow
  have HLEN := Lib.hid hlen
  have HXS := Lib.hid hxs
  have HDIS := Lib.hid hdis
  have HROW := Lib.hid hrow
  have HOL := Lib.hid hol
  clear hlen hxs hdis hrow hol
  have htl := tot_le xs
  go_enter Try.func131, Try.ntmps131
  go_wp2
  go_loopw [1, 5] (fun s i wr => ∃ (j : Nat) (r : Int), j ≤ n ∧ i = .int .i64 j ∧ s = .int .i64 r ∧ 0 ≤ r ∧ r = k + tot (xs.take j) ∧
      wr.ownsRow lo' 29 1 (.slice A n c) n cs ∧ OL 2 wr lo cs (fun i => if i < j then gl (mkL k xs) i else gl xs i) ∧ Chg (InL cs) w wr) (fun _ i _ => n - (intOf i).toNat)
  case atStart => exact ⟨0, k, Nat.zero_le _, rfl, rfl, hk0, by simp [tot], HROW.out, HOL.out.congr (fun i _ => by simp), Chg.refl _ _⟩
  case round =>
    obtain ⟨j, r, hj, rfl, rfl, hr0, hr2, hrow, hol, hch⟩ := hrel
    have HR := Lib.hid hr2
    have HW := Lib.hid hrow
    have HO := Lib.hid hol
    have HC := Lib.hid hch
    clear hr2 hrow hol hch
    by_cases hlt : j < n
    · have hlt' : j < cs.length := by rw [HLEN.out]; omega
      obtain ⟨A0, c0, e0, _, _, hg⟩ := row_form HW.out
      injection e0 with e1 e2 e3
      obtain ⟨g, hgA⟩ := hg (by omega)
      subst e3
      rw [← e1] at hgA
      subst hgA
      clear e1 e2 hg
      have hoj := HO.out j hlt'
      simp only [Nat.lt_irrefl, if_false] at hoj
      obtain ⟨A1, c1, e1⟩ := hoj.form
      have hcell := row_cell HW.out (j := j) (by omega)
      have hown := own_ne hoj HW.out (by decide)
      rw [e1] at hoj hcell hown
      have E1 := Lib.hid e1
      clear e1
      have hsum : tot (xs.take (j + 1)) = tot (xs.take j) + (gl xs j).length := tot_take (by rw [HXS.out]; exact hlt)
      have HS := Lib.hid hsum
      have hle := htl (j + 1)
      have hkk : r + (gl xs j).length ≤ 4611686018427387904 := by have := HR.out; omega
      have hat := mkL_at xs k j (by rw [HXS.out]; exact hlt)
      rw [← HR.out] at hat
      have HAT := Lib.hid hat
      clear hat hsum hle
      go_wp2_with fail
      refine (markInts _ _ _ _ _ _ _ hoj hr0 hkk).mono ?_; rintro e w2 ⟨rfl, ho2, hg2⟩
      have hc2 := Chg.of_grown hg2
      have hrow2 := row_chg HW.out hc2 (fun b hb hs => hown b hs hb)
      have hdj : ∀ i, i < cs.length → i ≠ j → ∀ b, (gv cs i).ownBlock = some b → ¬ (Value.slice A1 (gl xs j).length c1).ownBlock = some b := by
        intro i hi hne b hb hs
        have hd := HDIS.out i j hi hlt' hne
        rw [E1.out] at hd
        rcases hd with h1 | h1
        · rw [h1] at hb; cases hb
        · exact h1 (hb.trans hs.symm)
      have hol2 : OL 2 w2 lo cs (fun i => if i < j + 1 then gl (mkL k xs) i else gl xs i) := by
        intro i hi
        by_cases e : i = j
        · subst e
          dsimp only
          rw [if_pos (by omega), HAT.out, E1.out]
          exact ho2
        · have := (HO.out i hi).chg hc2 (hdj i hi e)
          dsimp only at this ⊢
          by_cases h3 : i < j
          · rw [if_pos h3] at this; rw [if_pos (by omega)]; exact this
          · rw [if_neg h3] at this; rw [if_neg (by omega)]; exact this
      have hch2 : Chg (InL cs) w w2 := HC.out.trans hc2 (fun _ h => h) (fun b hb => ⟨j, hlt', by rw [E1.out]; exact hb⟩)
      have HO2 := Lib.hid hol2
      have HW2 := Lib.hid hrow2
      have HC2 := Lib.hid hch2
      clear hol2 hrow2 hch2 hdj hc2 hown
      go_wp2
      go_roundw
      case rel => exact ⟨j + 1, r + (gl xs j).length, by omega, by go_num, rfl, by omega, by rw [HS.out, HR.out]; omega, HW2.out, HO2.out, HC2.out⟩
      case measure => simp [intOf]; omega
    · obtain rfl : j = n := by omega
      go_wp2
      go_ret
      refine ⟨ret_i (by rw [HR.out, List.take_of_length_le (by rw [HXS.out]; omega)]), HW.out, HO.out.congr (fun i hi => ?_), HC.out⟩
      rw [if_pos (by rw [HLEN.out] at hi; omega)]

set_option maxHeartbeats 400000 in
theorem heldGrid (A : Option Addr) (n c : Nat) (xs : List (List Int)) (k : Int) (w : World) (ho : RII w A n c (mkL k xs)) (hk0 : 0 ≤ k) (hk1 : k + tot xs ≤ 4611686018427387904) :
    Calls Try.prog 166 #[.slice A n c, .int .i64 k] w fun e w' => e = .returned (.int .i64 (k + tot xs)) ∧ Qt w w' := by
  have b1 := ho.cap; have b2 := ho.top
  have hxs : xs.length = n := by rw [← ho.len, mkL_len]
  have HXS := Lib.hid hxs
  clear hxs
  have htl := tot_le xs
  go_enter Try.func166, Try.ntmps166
  go_wp2
  go_loopw [1, 5] (fun s i wr => ∃ (j : Nat) (r : Int), j ≤ n ∧ i = .int .i64 j ∧ s = .int .i64 r ∧ 0 ≤ r ∧ r = k + tot (xs.take j) ∧ ∃ q, wr = w.drewN q) (fun _ i _ => n - (intOf i).toNat)
  case atStart => exact ⟨0, k, Nat.zero_le _, rfl, rfl, hk0, by simp [tot], 0, rfl⟩
  case round =>
    obtain ⟨j, r, hj, rfl, rfl, hr0, hr2, q, rfl⟩ := hrel
    have HR := Lib.hid hr2
    clear hr2
    by_cases hlt : j < n
    · obtain ⟨b, off, A1, n1, c1, rfl, hc, r1⟩ := ho.at_ hlt
      have hat := mkL_at xs k j (by rw [HXS.out]; exact hlt)
      rw [← HR.out] at hat
      rw [hat] at r1
      obtain rfl : n1 = (gl xs j).length := by rw [← r1.len, upto_len]
      have hsum : tot (xs.take (j + 1)) = tot (xs.take j) + (gl xs j).length := tot_take (by rw [HXS.out]; exact hlt)
      have HS := Lib.hid hsum
      have hle := htl (j + 1)
      have hkk : r + (gl xs j).length ≤ 4611686018427387904 := by have := HR.out; omega
      have hpos : 0 ≤ r + (gl xs j).length := by omega
      clear hat hsum hle
      go_wp2_with fail
      refine (heldInts _ _ _ _ _ (r1.keep (Qt.keeps ⟨_, rfl⟩)) hr0 hkk).mono ?_; rintro e w2 ⟨rfl, q2, rfl⟩
      go_wp2
      go_roundw
      case rel => exact ⟨j + 1, r + (gl xs j).length, by omega, by go_num, rfl, by omega, by rw [HS.out, HR.out]; omega, _, rfl⟩
      case measure => simp [intOf]; omega
    · obtain rfl : j = n := by omega
      go_wp2
      go_ret
      exact ⟨ret_i (by rw [HR.out, List.take_of_length_le (by rw [HXS.out]; omega)]), _, rfl⟩
end Go.Proofs.Ytfjhkjikfjpnpaa
