/- The first line of a game's text: l13Head, strings.CutPrefix: contracts. -/
import Derived.Test.YtkhkdnmpbfmmeaaDoorLinT
import Derived.Shelf.Small.Wraps
namespace Go.Proofs.YtkhkdnmpbfmmeaaDoor
open Go.RowKit

def gmW : List UInt8 := [103, 97, 109, 101]
def gmB : List UInt8 := [103, 97, 109, 101, 32]
/-- the number of a first line; 0: it is wrong -/
def hdN (l : List UInt8) : Int := if (spl 32 l).length = 2 ∧ gx (spl 32 l) 0 = gmW ∧ 1 ≤ rdNum (gx (spl 32 l) 1) 256 then rdNum (gx (spl 32 l) 1) 256 else 0
theorem hdN_le (l : List UInt8) : 0 ≤ hdN l ∧ hdN l ≤ 256 := by
  unfold hdN
  split
  · rename_i h
    have := rdNum_le (l := gx (spl 32 l) 1) (most := 256) (by omega)
    omega
  · omega
theorem spl_long {c : UInt8} {l : List UInt8} (h : c ∈ l) : 2 ≤ (spl c l).length := by
  obtain ⟨a, b, rfl, ha⟩ := spl_cut h
  rw [spl_hit c b a ha]
  have := List.length_pos_iff.2 (spl_ne c b)
  simp
  omega
theorem hd_pre (r : List UInt8) : hdN (gmB ++ r) = if 1 ≤ rdNum r 256 then rdNum r 256 else 0 := by
  have e : spl 32 (gmB ++ r) = gmW :: spl 32 r := spl_hit 32 r gmW (by decide)
  unfold hdN
  rw [e]
  by_cases h : (32 : UInt8) ∈ r
  · have h2 := spl_long h
    have hr : rdNum r 256 = -1 := by
      unfold rdNum
      rw [if_neg]
      intro k
      have := (of_decide_eq_true k.1).2.2.2 32 h
      exact absurd this (by decide)
    rw [hr, if_neg (fun k => by have := k.1; simp at this; omega), if_neg (by omega)]
  · rw [spl_none 32 r h]
    by_cases h1 : 1 ≤ rdNum r 256
    · rw [if_pos ⟨rfl, rfl, h1⟩, if_pos h1]; rfl
    · rw [if_neg (fun k => h1 k.2.2), if_neg h1]
theorem hd_no {l : List UInt8} (h : gmB.isPrefixOf l = false) : hdN l = 0 := by
  unfold hdN
  rw [if_neg]
  rintro ⟨h1, h2, h3⟩
  by_cases hc : (32 : UInt8) ∈ l
  · obtain ⟨a, b, rfl, ha⟩ := spl_cut hc
    rw [spl_hit 32 b a ha] at h2
    have h2' : a = gmW := h2
    subst h2'
    rw [show gmW ++ 32 :: b = gmB ++ b from rfl] at h
    rw [List.isPrefixOf_iff_prefix.2 (List.prefix_append _ _)] at h
    cases h
  · rw [spl_none 32 l hc] at h1
    simp at h1
theorem hd_nil : hdN [] = 0 := hd_no (by decide)

set_option maxRecDepth 100000 in
theorem l13Head (s : ByteArray) (w : World) (B : Nat) (hB : B ≤ w.heap.size) (hs : s.size ≤ 4000000) :
    Calls Tryd.prog 80 #[.string s] w fun e w' => e = .returned (.int .i64 (hdN s.data.toList)) ∧ Below B w w' := by
  go_enter Tryd.func80, Tryd.ntmps80
  go_wp2_with fail
  refine (l1Split s 32 32 rfl _ _ (Nat.le_refl _) hs).mono ?_; rintro e w1 ⟨v, rfl, ho1, hb1⟩
  obtain ⟨A1, c1, rfl⟩ := ho1.form
  have hR := ho1.reads
  have hcap := hR.cap
  have htop := hR.top
  have hb2 := hb1.mono hB
  have HG := Lib.hid (gtd 32 s)
  have HLn := Lib.hid (splT_len 32 s)
  have HD : Hid (hdN s.data.toList = if (splT 32 s).length = 2 ∧ gx (spl 32 s.data.toList) 0 = gmW ∧ 1 ≤ rdNum (gx (spl 32 s.data.toList) 1) 256 then rdNum (gx (spl 32 s.data.toList) 1) 256 else 0) := Lib.hid (by rw [HLn.out]; rfl)
  by_cases h2 : (splT 32 s).length = 2
  · rw [h2] at HD hR ⊢
    obtain ⟨b3, o3, hA3, hk0⟩ := hR.at_ (show 0 < 2 by omega)
    subst hA3
    obtain ⟨b3', o3', hA3', hk1⟩ := hR.at_ (show 1 < 2 by omega)
    injection hA3' with hA3'
    injection hA3' with hb3' ho3'
    subst hb3'; subst ho3'
    rw [Nat.add_zero] at hk0
    have G0 := HG.out 0
    have HG1 := Lib.hid (HG.out 1)
    clear HG h2 ho1
    by_cases hw : gx (spl 32 s.data.toList) 0 = gmW
    · have hws : ((gt (splT 32 s) 0).toList == [103, 97, 109, 101]) = true := by rw [Lib.toList_data, G0, hw]; rfl
      have HW := Lib.hid hw
      clear hw G0
      by_cases h1 : 1 ≤ rdNum (gx (spl 32 s.data.toList) 1) 256
      · have E := Lib.hid (HD.out.trans (if_pos ⟨rfl, HW.out, h1⟩))
        have h1' : ¬ rdNum (gx (spl 32 s.data.toList) 1) 256 < 1 := by omega
        clear h1
        go_wp2_with (go_at_call 62; refine (l13Number _ _ _).mono ?_; rintro e w4 ⟨rfl, q4, rfl⟩; rw [HG1.out])
        go_ret
        exact ⟨ret_i E.out.symm, below_drewN hb2 q4⟩
      · have E := Lib.hid (HD.out.trans (if_neg (fun h => h1 h.2.2)))
        have h1' : rdNum (gx (spl 32 s.data.toList) 1) 256 < 1 := by omega
        clear h1
        go_wp2_with (go_at_call 62; refine (l13Number _ _ _).mono ?_; rintro e w4 ⟨rfl, q4, rfl⟩; rw [HG1.out])
        go_ret
        exact ⟨ret_i E.out.symm, below_drewN hb2 q4⟩
    · have hws : ((gt (splT 32 s) 0).toList == [103, 97, 109, 101]) = false := by rw [Lib.toList_data, G0]; simpa [gmW] using hw
      have E := Lib.hid (HD.out.trans (if_neg (fun h => hw h.2.1)))
      clear hw G0
      go_wp2
      go_ret
      exact ⟨ret_i E.out.symm, hb2⟩
  · have E := Lib.hid (HD.out.trans (if_neg (fun h => h2 h.1)))
    have h2i : (((splT 32 s).length : Int) != 2) = true := by rw [bne_iff_ne]; omega
    clear h2
    go_wp2
    go_ret
    exact ⟨ret_i E.out.symm, hb2⟩
/-- what is behind the word -/
def cutR (l : List UInt8) : List UInt8 := Lib.trimPrefix l gmB
theorem stringsCut (s : ByteArray) (w : World) :
    Calls Tryd.prog 81 #[.string s, .string ⟨#[103, 97, 109, 101, 32]⟩] w fun e w' => e = .returned (.tuple #[.string (tx (cutR s.data.toList)), .bool (Lib.hasPrefix s.data.toList gmB)]) ∧ w' = w :=
  Any.strings_CutPrefix { Tryd.lCutP with } s ⟨#[103, 97, 109, 101, 32]⟩ w
end Go.Proofs.YtkhkdnmpbfmmeaaDoor
