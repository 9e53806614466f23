/- FnKinds: for every input the law returns true, and the argument reads as it read before. No condition. -/
import Derived.Test.YtlmhhnplacejkaaOpenY
import Derived.Test.YtlmhhnplacejkaaDiceS
import Derived.Test.YtlmhhnplacejkaaKindL
namespace Go.Proofs.Ytlmhhnplacejkaa.fnKinds
open Go.ChangeShapes Go.WideShapes Go.ChangeAt Go.RowKit

theorem low_snoc {pr : List Int} {x : Int} (h : ∀ v, v < pr.length → 0 ≤ gi pr v ∧ gi pr v < 9) (hx : 0 ≤ x ∧ x < 9) : ∀ v, v < (pr ++ [x]).length → 0 ≤ gi (pr ++ [x]) v ∧ gi (pr ++ [x]) v < 9 := fun v hv => by
  rw [List.length_append, List.length_singleton] at hv
  by_cases e : v = pr.length
  · subst e; rw [gi_app_e9]; exact hx
  · rw [gi_app_l9 (by omega)]; exact h v (by omega)
theorem ring_fine {ps : List Int} (h1 : 1 ≤ ps.length) (h2 : ps.length ≤ 256) (h : ∀ v, v < ps.length → 0 ≤ gi ps v ∧ gi ps v < 9) : okRing ps = true := decide_eq_true ⟨h1, h2, fun p hp => by
  obtain ⟨i, hi, rfl⟩ := mem_gi hp
  have := h i hi
  omega⟩
set_option maxRecDepth 100000 in
set_option maxHeartbeats 3200000 in
theorem walk (A : Option Addr) (n c : Nat) (l : List Int) (w : World) (hy : RY w A n c l) :
    Calls Try.prog 6 #[.slice A n c] w fun e w' => e = .returned (.bool true) ∧ Below w.heap.size w w' := by
  have b1 := hy.cap; have b2 := hy.top
  by_cases hb : 4096 < n
  · have E := Lib.hid (show decide (4096 < n) = true from decide_eq_true hb)
    go_enter Try.func6, Try.ntmps6
    go_wp2_with fail
    refine (big _ _ _ _ _ hy).mono ?_; rintro e w1 ⟨rfl, q1⟩
    rw [E.out]
    go_wp2
    go_ret
    exact ⟨rfl, below_qt q1 (Below.refl _ _)⟩
  have E := Lib.hid (show decide (4096 < n) = false from decide_eq_false hb)
  have hn : n ≤ 4096 := by omega
  clear hb
  go_enter Try.func6, Try.ntmps6
  go_wp2_with fail
  refine (big _ _ _ _ _ hy).mono ?_; rintro e w1 ⟨rfl, q1⟩
  rw [E.out]
  have hw1 := below_qt q1 (Below.refl w.heap.size w)
  have sz1 := hw1.size
  go_wp2_with fail
  refine (roll A n c l _ _ (hy.keep (keeps_below hw1)) hn).mono ?_; rintro e w2 ⟨b, rfl, hd2⟩
  have hw2 := below_then hd2.bel sz1 hw1
  have lo2 := hd2.lo
  have up2 := hd2.lt
  have hwb : w.heap.size ≤ b := by omega
  clear hw1 q1 hy E b1 b2
  go_wp2_with fail
  refine (below w1 _ b 12 hd2 (by omega)).mono ?_; rintro e w3 ⟨x, rfl, hx, hd3, hc3⟩
  have hw3 : Below w.heap.size w w3 := hw2.trans (hc3.below hw2.size (fun y hy => by have h3 : y = b := hy; omega))
  have sz3 := hc3.size
  have hbd : b < w3.heap.size := hd3.lt
  obtain ⟨M, hM⟩ : ∃ M : Nat, 1 + x = (M : Int) := ⟨(1 + x).toNat, by omega⟩
  have HM : Hid (1 ≤ M ∧ M ≤ 41) := Lib.hid (by omega)
  have hM1 : (M : Int) ≤ 12 := by omega
  have e1 : IntKind.i64.wrap (1 + x) = (M : Int) := by rw [hM]; exact IntWalk.i64_in _ (by omega)
  have e2 : wrap64 (1 + x) = (M : Int) := by unfold wrap64; omega
  clear hM
  go_wp2_with fail
  refine (towerK M true _ _ (Nat.le_refl _) HM.out).mono ?_; rintro e w4 ⟨p10, p11, p12, g1, rfl, o1, K1, hb1⟩
  obtain ⟨A10, c10, A11, c11, A12, c12, rfl, rfl, rfl⟩ := o1.form
  replace K1 := Lib.hid K1
  have hw4 := below_then hb1 hw3.size hw3
  have sz4 := hb1.size
  have hba1 : Below w4.heap.size w4 (w4.alloc (.cells #[.slice A10 g1.1.length c10, .slice A11 g1.2.1.length c11, .slice A12 g1.2.2.length c12] 33)) := below_alloc (Nat.le_refl _) (Below.refl _ _)
  have bx1 : Box (w4.alloc (.cells #[.slice A10 g1.1.length c10, .slice A11 g1.2.1.length c11, .slice A12 g1.2.2.length c12] 33)) w4.heap.size 33 #[.slice A10 g1.1.length c10, .slice A11 g1.2.1.length c11, .slice A12 g1.2.2.length c12] := Box.new _ _ _
  have hw5 := below_then hba1 hw4.size hw4
  have o1 := o1.below hba1
  have so1 := hba1.size
  replace hd3 := hd3.on hb1
  replace hd3 := hd3.on hba1
  go_wp2_with fail
  have Ew5 : (w4.alloc (.cells #[.slice A10 g1.1.length c10, .slice A11 g1.2.1.length c11, .slice A12 g1.2.2.length c12] 33)).heap.size = w4.heap.size + 1 := by simp
  generalize w4.alloc (.cells #[.slice A10 g1.1.length c10, .slice A11 g1.2.1.length c11, .slice A12 g1.2.2.length c12] 33) = w5 at *
  replace Ew5 := Lib.hid Ew5
  clear e1 e2
  refine (towerK M false _ _ (Nat.le_refl _) HM.out).mono ?_; rintro e w6 ⟨p20, p21, p22, g2, rfl, o2, K2, hb2⟩
  obtain ⟨A20, c20, A21, c21, A22, c22, rfl, rfl, rfl⟩ := o2.form
  replace K2 := Lib.hid K2
  have hw6 := below_then hb2 hw5.size hw5
  have sz6 := hb2.size
  have hba2 : Below w6.heap.size w6 (w6.alloc (.cells #[.slice A20 g2.1.length c20, .slice A21 g2.2.1.length c21, .slice A22 g2.2.2.length c22] 33)) := below_alloc (Nat.le_refl _) (Below.refl _ _)
  have bx2 : Box (w6.alloc (.cells #[.slice A20 g2.1.length c20, .slice A21 g2.2.1.length c21, .slice A22 g2.2.2.length c22] 33)) w6.heap.size 33 #[.slice A20 g2.1.length c20, .slice A21 g2.2.1.length c21, .slice A22 g2.2.2.length c22] := Box.new _ _ _
  have hw7 := below_then hba2 hw6.size hw6
  have o2 := o2.below hba2
  have so2 := hba2.size
  replace hd3 := hd3.on hb2
  replace hd3 := hd3.on hba2
  replace bx1 := bx1.on hb2
  replace bx1 := bx1.on hba2
  replace o1 := o1.below hb2
  replace o1 := o1.below hba2
  go_wp2_with fail
  have Ew7 : (w6.alloc (.cells #[.slice A20 g2.1.length c20, .slice A21 g2.2.1.length c21, .slice A22 g2.2.2.length c22] 33)).heap.size = w6.heap.size + 1 := by simp
  generalize w6.alloc (.cells #[.slice A20 g2.1.length c20, .slice A21 g2.2.1.length c21, .slice A22 g2.2.2.length c22] 33) = w7 at *
  replace Ew7 := Lib.hid Ew7
  clear hb1 hba1 hb2 hba2 hw4 hw5 hw6 hc3
  have hbE : Below w7.heap.size w7 (w7.alloc (.cells #[] 2)) := below_alloc (Nat.le_refl _) (Below.refl _ _)
  have hoE : OI 2 (w7.alloc (.cells #[] 2)) w7.heap.size (.slice (some ⟨w7.heap.size, 0, none⟩) 0 0) [] := OI.empty (Nat.le_refl _)
  rw [Ew7.out] at hoE
  replace hd3 := hd3.on hbE
  have hcE : Chg (fun y => y = b) w7 (w7.alloc (.cells #[] 2)) := chgB hbE
  have szE := hbE.size
  generalize w7.alloc (.cells #[] 2) = w8 at *
  refine (below w1 _ b 9 hd3 (by omega)).mono ?_; rintro e w9 ⟨y, rfl, hy, hd9, hc9⟩
  have hlb : b < w3.heap.size := hbd
  have chO : ∀ z, z = b → z < w3.heap.size := fun z hz => by omega
  have l4 : w3.heap.size ≤ w4.heap.size := sz4
  replace hoE := hoE.chg hc9 (fun z hz e => by have h3 : z = b := e; have := (hoE.lt z hz).1; omega)
  replace hcE := hcE.trans hc9 (U := fun y => y = b) (fun _ h => h) (fun _ h => h)
  have L7 : w7.heap.size ≤ w6.heap.size + 1 := Nat.le_of_eq Ew7.out
  have szc := hcE.size
  clear hbE hc9
  obtain ⟨R, hR⟩ : ∃ R : Nat, 1 + y = (R : Int) := ⟨(1 + y).toNat, by omega⟩
  have hR1 : 1 ≤ R ∧ R ≤ 9 := by omega
  have e1 : IntKind.i64.wrap (1 + y) = (R : Int) := by rw [hR]; exact IntWalk.i64_in _ (by omega)
  have e2 : wrap64 (1 + y) = (R : Int) := by unfold wrap64; omega
  clear hR
  go_wp2_with fail
  go_loopw [9, 10, 11] (fun u i r wr => ∃ (ps : List Int) (top : Int) (k : Nat), k ≤ R ∧ i = .int .i64 top ∧ r = .int .i64 k ∧ OI 2 wr (w6.heap.size + 1) u ps ∧ Hid (TopOf ps top ∧ (∀ v, v < ps.length → 0 ≤ gi ps v ∧ gi ps v < 9) ∧ ps.length + k = R) ∧ (0 ≤ top ∧ top < 9) ∧ DiceAt w1 wr b ∧ Chg (fun y => y = b) w7 wr) (fun _ _ r _ => (intOf r).toNat)
  case atStart => exact ⟨[], 0, R, Nat.le_refl _, rfl, rfl, hoE, Lib.hid ⟨topOf_nil, fun v hv => absurd hv (by simp), by simp⟩, by omega, hd9, hcE⟩
  case round =>
    clear hoE hd9 hcE e1 e2
    obtain ⟨ps, top, k, hk, rfl, rfl, ho, HP, ⟨ht0, ht9⟩, hd, hcc⟩ := hrel
    obtain ⟨Ap, cp, rfl⟩ := ho.form
    by_cases hk0 : 0 < k
    · have hki : (0 : Int) < (k : Int) := by omega
      have hkz : ps.length ≤ 4194304 := by have := HP.out.2.2; omega
      go_wp2_with fail
      refine (below w1 _ b 9 hd (by omega)).mono ?_; rintro e w10 ⟨z, rfl, hz, hd10, hc10⟩
      have hcc10 := hcc.trans hc10 (U := fun y => y = b) (fun _ h => h) (fun _ h => h)
      have ho10 := ho.chg hc10 (fun y hy e => by have h3 : y = b := e; have := (ho.lt y hy).1; omega)
      have sz10 := hcc10.size
      have hl10 : w6.heap.size + 1 ≤ w10.heap.size := by have h3 := hcc10.size; have h4 := Ew7.out; omega
      have HP2 := Lib.hid (show TopOf (ps ++ [z]) (if top < z then z else top) ∧ (∀ v, v < (ps ++ [z]).length → 0 ≤ gi (ps ++ [z]) v ∧ gi (ps ++ [z]) v < 9) ∧ (ps ++ [z]).length + (k - 1) = R from ⟨topOf_snoc HP.out.1 hz.1, low_snoc HP.out.2.1 hz, by have := HP.out.2.2; rw [List.length_append, List.length_singleton]; omega⟩)
      by_cases hlt : top < z
      · rw [if_pos hlt] at HP2
        go_wp2_with (at_builtin; refine wpList_pushI rfl (.tmp 47) (.tmp 49) rfl _ (w6.heap.size + 1) (.slice Ap ps.length cp) ps (by rfl) ho10 _ (by rfl) hkz hl10 ?_; intro v2 w11 ho11 hb11 hc11 hat11)
        have hown : ∀ y, (Value.slice Ap ps.length cp).ownBlock = some y → w6.heap.size + 1 ≤ y := fun y hy => (ho10.lt y hy).1
        have hd11 := hd10.chg hc11 (fun y hy => by have := hown y hy; omega)
        have hcc11 := chg_app hcc10 L7 hc11 hown
        clear hc11 hat11 hb11 hd10 ho10 hcc10 ho hcc hd hc10
        go_wp2
        exact ⟨⟨ps ++ [z], z, k - 1, by omega, rfl, by go_num, ho11, HP2, by omega, hd11, hcc11⟩, by simp [intOf]; omega⟩
      · rw [if_neg hlt] at HP2
        go_wp2_with (at_builtin; refine wpList_pushI rfl (.tmp 47) (.tmp 49) rfl _ (w6.heap.size + 1) (.slice Ap ps.length cp) ps (by rfl) ho10 _ (by rfl) hkz hl10 ?_; intro v2 w11 ho11 hb11 hc11 hat11)
        have hown : ∀ y, (Value.slice Ap ps.length cp).ownBlock = some y → w6.heap.size + 1 ≤ y := fun y hy => (ho10.lt y hy).1
        have hd11 := hd10.chg hc11 (fun y hy => by have := hown y hy; omega)
        have hcc11 := chg_app hcc10 L7 hc11 hown
        clear hc11 hat11 hb11 hd10 ho10 hcc10 ho hcc hd hc10
        go_wp2
        exact ⟨⟨ps ++ [z], top, k - 1, by omega, rfl, by go_num, ho11, HP2, by omega, hd11, hcc11⟩, by simp [intOf]; omega⟩
    · obtain rfl : k = 0 := by omega
      have hlb2 : ∀ {t : Nat}, w3.heap.size ≤ t → t < w7.heap.size → wr.heap[t]? = w7.heap[t]? := fun h1 h2 => hcc.block _ h2 (fun e => by have h3 : _ = b := e; omega)
      have bx1 : Box wr w4.heap.size 33 #[.slice A10 g1.1.length c10, .slice A11 g1.2.1.length c11, .slice A12 g1.2.2.length c12] := (hlb2 (by omega) bx1.lt).trans bx1
      have bx2 : Box wr w6.heap.size 33 #[.slice A20 g2.1.length c20, .slice A21 g2.2.1.length c21, .slice A22 g2.2.2.length c22] := (hlb2 (by omega) bx2.lt).trans bx2
      have o1 := o1.chg hcc chO
      have o2 := o2.chg hcc (fun z hz => by have := chO z hz; omega)
      have hwr : Below w.heap.size w wr := hw7.trans (hcc.below hw7.size (fun y hy => by have h3 : y = b := hy; omega))
      have HLR := Lib.hid (show ps.length = R by have := HP.out.2.2; omega)
      have hok : okRing ps = true := ring_fine (by have := HLR.out; omega) (by have := HLR.out; omega) HP.out.2.1
      clear hcc hd hlb2
      rw [HLR.out] at ho ⊢
      go_wp2_with fail
      refine (ringK _ _ _ ps top _ _ (Nat.le_refl _) ho.reads hok HP.out.1).mono ?_; rintro e w12 ⟨p30, p31, p32, g3, rfl, o3, K3, hb3⟩
      obtain ⟨A30, c30, A31, c31, A32, c32, rfl, rfl, rfl⟩ := o3.form
      rw [HLR.out] at K3
      replace K3 := Lib.hid K3
      have hw12 := below_then hb3 hwr.size hwr
      have hba3 : Below w12.heap.size w12 (w12.alloc (.cells #[.slice A30 g3.1.length c30, .slice A31 g3.2.1.length c31, .slice A32 g3.2.2.length c32] 33)) := below_alloc (Nat.le_refl _) (Below.refl _ _)
      have bx3 : Box (w12.alloc (.cells #[.slice A30 g3.1.length c30, .slice A31 g3.2.1.length c31, .slice A32 g3.2.2.length c32] 33)) w12.heap.size 33 #[.slice A30 g3.1.length c30, .slice A31 g3.2.1.length c31, .slice A32 g3.2.2.length c32] := Box.new _ _ _
      have hw13 := below_then hba3 hw12.size hw12
      replace o3 := o3.below hba3
      replace o1 := (o1.below hb3).below hba3; replace o2 := (o2.below hb3).below hba3
      replace bx1 := (bx1.on hb3).on hba3; replace bx2 := (bx2.on hb3).on hba3
      have t0 := bx1.c0; have t1 := bx1.c1; have t2 := bx1.c2
      clear hwr ho hb3 hba3 hw12
      go_wp2_with fail
      generalize w12.alloc (.cells #[.slice A30 g3.1.length c30, .slice A31 g3.2.1.length c31, .slice A32 g3.2.2.length c32] 33) = w13 at *
      refine (solvedK _ _ _ g1 M _ _ _ (Nat.le_refl _) o1.reads K1.out).mono ?_; rintro e w14 ⟨X, Xq, x1, x1q, la, rfl, ha, HLA, hb14⟩
      have hw14 := below_then hb14 hw13.size hw13
      replace o2 := o2.below hb14; replace o3 := o3.below hb14; replace bx2 := bx2.on hb14; replace bx3 := bx3.on hb14
      clear t0 t1 t2 bx1 o1 hw13 hb14
      have t0 := bx2.c0; have t1 := bx2.c1; have t2 := bx2.c2
      go_wp2_with fail
      refine (solvedK _ _ _ g2 M _ _ _ (Nat.le_refl _) o2.reads K2.out).mono ?_; rintro e w15 ⟨Y, Yq, y1, y1q, lb, rfl, hb, HLB, hb15⟩
      have hw15 := below_then hb15 hw14.size hw14
      replace o3 := o3.below hb15; replace bx3 := bx3.on hb15; replace ha := ha.below hb15
      clear t0 t1 t2 bx2 o2 hw14 hb15
      have t0 := bx3.c0; have t1 := bx3.c1; have t2 := bx3.c2
      go_wp2_with fail
      refine (solvedK _ _ _ g3 R _ _ _ (Nat.le_refl _) o3.reads K3.out).mono ?_; rintro e w16 ⟨Z, Zq, z1, z1q, lc, rfl, hc, HLC, hb16⟩
      have hw16 := below_then hb16 hw15.size hw15
      replace ha := (ha.below hb16).reads; replace hb := (hb.below hb16).reads; replace hc := hc.reads
      clear t0 t1 t2 bx3 o3 hw15 hb16
      have HT := Lib.hid ht9
      go_wp2_with fail
      go_loopw [18] (fun i wr => ∃ v : Nat, v ≤ M ∧ i = .int .i64 v ∧ Below w16.heap.size w16 wr) (fun i _ => M - (intOf i).toNat)
      case atStart => exact ⟨0, Nat.zero_le _, rfl, Below.refl _ _⟩
      case round =>
        obtain ⟨v, hv, rfl, hq⟩ := hrel
        by_cases hlt : v < M
        · have hM12 : M ≤ 12 := by omega
          obtain ⟨ba, oa, rfl, ka⟩ := (ha.keep (keeps_below hq)).at_ hlt
          obtain ⟨bb, ob, rfl, kb⟩ := (hb.keep (keeps_below hq)).at_ hlt
          rw [HLA.out.2 v hlt, show towW true v = (v : Int) % 2 from rfl] at ka
          rw [HLB.out.2 v hlt, show towW false v = 0 from rfl] at kb
          have hvi : (v : Int) < (M : Int) := by omega
          have hv0 : (0 : Int) ≤ (v : Int) := by omega
          have e1 : IntKind.i64.wrap ((v : Int) % 2) = (v : Int) % 2 := IntWalk.i64_in _ (by omega)
          clear HLA HLB HLC K1 K2 K3 HP
          go_wp2
          exact ⟨⟨v + 1, by omega, by go_num, hq⟩, by simp [intOf]; omega⟩
        · obtain rfl : v = M := by omega
          go_wp2_with fail
          go_loopw [19] (fun i wr => ∃ v : Nat, v ≤ R ∧ i = .int .i64 v ∧ Below w16.heap.size w16 wr) (fun i _ => R - (intOf i).toNat)
          case atStart => exact ⟨0, Nat.zero_le _, rfl, hq⟩
          case round =>
            clear hq
            obtain ⟨u, hu, rfl, hq⟩ := hrel
            by_cases hlt : u < R
            · obtain ⟨bc, oc, rfl, kc⟩ := (hc.keep (keeps_below hq)).at_ hlt
              rw [HLC.out.2 u hlt] at kc
              have ht9 := HT.out
              have hvi : (u : Int) < (R : Int) := by omega
              have hv0 : (0 : Int) ≤ (u : Int) := by omega
              have e1 : IntKind.i64.wrap (top % 2) = top % 2 := IntWalk.i64_in _ (by omega)
              clear HLA HLB HLC K1 K2 K3 HP
              go_wp2
              exact ⟨⟨u + 1, by omega, by go_num, hq⟩, by simp [intOf]; omega⟩
            · obtain rfl : u = R := by omega
              go_wp2
              go_ret
              exact ⟨rfl, below_then hq hw16.size hw16⟩
theorem own : ownKnob Try.prog.godebug = none := by kernel_rfl
theorem laidOut : laidOutB Try.prog = true := by kernel_rfl
set_option maxRecDepth 100000 in
theorem lifted (os : Os) (started : os.Started) (H : Type) (enc : TypeId × Value → H) :
    ReturnsInHanded {} Try.checked os 6 .any (Rows.fnKindsSpec.pre6 enc Try.prog Try.f6 Rows.fnKindsRow.domain false) (Rows.fnKindsSpec.post enc Try.prog Try.f6 false true false false) := by
  refine returnsInHanded_of_change (C := Try.checked) own started (by kernel_rfl) Try.func6
    (ChangeSpec.witness6 (enc := enc) (C := Try.checked) false ⟨#[], #[.slice none 0 0], []⟩ 8 (by kernel_rfl) (by kernel_rfl) (by kernel_rfl) (by kernel_rfl)) ?_
  intro W base args ds gs before hval0 hW hcnd _
  have hval : ∀ (j : Nat) t v, Try.f6.params[j]? = some t → args[j]? = some v → Value.okWide Try.prog W .any base t v := hval0
  have hW' := hW
  obtain ⟨p, q, hA0, hV, rfl, hfz, hnd⟩ := hW
  have hA : DataW.TrodAll enc Try.prog W 0 (fun _ => true) true Try.f6.params.toList args.toList ds p := hA0
  rw [Try.params6] at hA hval
  obtain ⟨v0, vs0, d0, ds0, p0, q0, hargs, rfl, rfl, h0, r0⟩ := trodAll_cons hA
  obtain ⟨rfl, rfl, rfl⟩ := trodAll_nil r0
  obtain rfl : args = #[v0] := by cases args; simp_all
  obtain ⟨rfl, rfl⟩ := trodVars_none hV
  have k0 := h0
  have lt0 : ∀ x ∈ p0, x.block < W.heap.size := by obtain ⟨m, hm⟩ := k0; exact DataW.trod_lt m _ _ _ hm
  obtain ⟨fuel0, hf0⟩ := h0
  obtain ⟨A0, n0, c0, rfl⟩ := okWide_slice Try.underlying22 (hval 0 22 v0 rfl rfl)
  obtain ⟨B0, m0, d0, ps0, e0, rr0⟩ := ry_of_trod (c := .slice A0 n0 c0) Try.underlying22 Try.underlying5 (by kernel_rfl) (by intro; rfl) hf0
  injection e0 with ea0 eb0 ec0
  subst ea0; subst eb0; subst ec0
  clear hA0 hval0
  refine (walk _ _ _ _ W rr0).mono fun e W' ⟨he, bel⟩ => ?_
  subst he
  exact ⟨_, rfl, _, _, _, [], _, [], hW', trodAll_mk1 (shut_bool Try.underlying4 _), (trodAll_cons_mk (Below.trod laidOut (by kernel_rfl) (of_decide_eq_true (by kernel_rfl)) k0 bel lt0) trodAll_mk0), rfl, bel.frame _, fun h => by cases h⟩
theorem over : Rows.fnKindsRow.holds Try.pinned (OpenSpec.ofChange Rows.fnKindsSpec) :=
  OpenClaim.holds_of_wide 6 Try.f6 rfl rfl rfl rfl rfl rfl rfl ⟨rfl, rfl, rfl, rfl, rfl⟩ rfl rfl rfl rfl rfl (by kernel_rfl) Try.func6 (by kernel_rfl)
    (of_decide_eq_true (by kernel_rfl)) (by unfold Func.isWrapper; first | (rw [if_pos (by decide +kernel)]; kernel_rfl) | (rw [if_neg (by decide +kernel)]; exact ⟨rfl, rfl⟩))
    (fun os started H enc _ => lifted os started H enc)
/-- the statement -/
theorem proved : Rows.FnKindsSaid := over
end Go.Proofs.Ytlmhhnplacejkaa.fnKinds


