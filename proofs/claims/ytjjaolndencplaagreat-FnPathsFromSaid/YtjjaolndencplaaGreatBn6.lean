/- Texts that the proof reaches: Loop, Lead, BrkI, WelP, Put, PPair1, PlayWon, PathP, BrkV, WelI, WelJ. -/
import Derived.Test.YtjjaolndencplaaGreatBn5
import Derived.Deep.DeepCutAuto
import Derived.Deep.RegionHeld3
import Derived.IntWalk
namespace Go.Proofs.YtjjaolndencplaaGreat
open Go.RowKit

theorem back_rw {E : List (List Int)} {ins : List Bool} {N : Nat} {f : Nat → List Int} (hP : PB E N (fun v u => gb ins v = true ∧ gb ins u = true) N 0 f) (hl : ins.length = N) {x y : Nat} :
    RW ((List.range N).map f) ins y x ↔ RW E ins x y := by
  have row : ∀ {y : Nat}, y < N → gl ((List.range N).map f) y = f y := fun hy => by simp [gl, hy]
  constructor
  · rintro ⟨h1, h2, h3⟩
    have hy := lt_ins hl h1
    rw [row hy] at h3
    obtain ⟨v, e, ho, k | k⟩ := (hP.mem y hy x).1 h3
    · obtain rfl : x = v := by omega
      exact ⟨h2, h1, k.2⟩
    · obtain ⟨_, i, hi, _⟩ := k; omega
  · rintro ⟨h1, h2, h3⟩
    have hy := lt_ins hl h2
    refine ⟨h2, h1, ?_⟩
    rw [row hy]
    exact (hP.mem y hy x).2 ⟨x, rfl, ⟨h1, h2⟩, .inl ⟨lt_ins hl h1, h3⟩⟩
theorem store_box {w : World} {b : Nat} {t : TypeId} {x v : Value} (h : Box w b t #[x]) (h1 : v.oneCell' = true) : (store ⟨b, 0, none⟩ v).run Tryz.prog w = .ok () (w.setCell ⟨b, 0, none⟩ v) := by
  have h2 : w.cell? ⟨b, 0, none⟩ = some x := h.cell 0
  have h3 := h.hot 0
  rw [run_store _ _ _ _ _ h1, h2]
  simp [h3]
set_option maxRecDepth 100000 in
set_option maxHeartbeats 6400000 in
theorem implLoops (At Cw : Option Addr) (ct dw N : Nat) (E : List (List Int)) (ins : List Bool) (w : World) (B : Nat) (hB : B ≤ w.heap.size) (hx : RII w At N ct E) (hi : RB w Cw N dw ins) (hN : N ≤ 256)
    (hE : ∀ x, x < N → (gl E x).length ≤ 16 ∧ ∀ j, j < (gl E x).length → ∃ m : Nat, gi (gl E x) j = (m : Int) ∧ m < N) :
    Calls Tryz.prog 47 #[.slice At N ct, .slice Cw N dw] w fun e w' => ∃ (A : Option Addr) (c : Nat) (ps : List (List Int)), e = .returned (.slice A ps.length c) ∧ RII w' A ps.length c ps ∧ (isParts (RW E ins) ps ∧ (∀ p, p ∈ ps → setB p (N : Int) = true) ∧ ps.length ≤ N) ∧ Below B w w' := by
  have x1 := hx.cap; have x2 := hx.top; have i1 := hi.cap; have i2 := hi.top
  have hil := hi.1
  have HIL := Lib.hid hil
  have bx := Box.new w 47 #[.slice Cw N dw]
  have hba : Below w.heap.size w (w.alloc (.cells #[.slice Cw N dw] 47)) := below_alloc (Nat.le_refl _) (Below.refl _ _)
  have HZ : Hid ((w.alloc (.cells #[.slice Cw N dw] 47)).heap.size = w.heap.size + 1) := Lib.hid (by simp)
  have hsA : w.heap.size ≤ (w.alloc (.cells #[.slice Cw N dw] 47)).heap.size := by simp
  have HE := Lib.hid hE
  obtain ⟨ib, hib, hz0, hz1, hz2⟩ := info_parts infoII'
  clear hE hil
  go_enter Tryz.func47, Tryz.ntmps47
  go_wp2_with (refine wpList_make_full _ rfl (.tmp 19) (.tmp 19) 28 rfl w.heap.size 27 ib (.slice none 0 0) 1 Tryz.underlying28 hib hz0 hz1 .i64 .i64 _ _ N rfl rfl rfl rfl (by rw [hz2]; omega) (by unfold maxLen; omega) hsA ?_; intro w1 hown hgrow; rw [HZ.out] at hown ⊢; have hb1 : Below w.heap.size w w1 := hba.grown hgrow (by simp) (by simp); have bx1 : Box w1 w.heap.size 47 #[.slice Cw N dw] := (hgrow.block _ bx.lt (by simp)).trans bx)
  rw [made_row] at hown
  have hK : BK w1 w.heap.size N (w.heap.size + 1) (List.replicate N (.slice none 0 0)) (fun _ => []) := ⟨hown, OL.nil rfl, Dis.nil⟩
  clear hown hgrow hba bx
  go_loopw [23] (fun i wr => ∃ (k : Nat) (cs : List Value) (f : Nat → List Int), k ≤ N ∧ i = .int .i64 (k : Int) ∧ BK wr w.heap.size N (w.heap.size + 1) cs f ∧ Hid (PB E N (fun v u => gb ins v = true ∧ gb ins u = true) k 0 f) ∧ Box wr w.heap.size 47 #[.slice Cw N dw] ∧ Below w.heap.size w wr) (fun i _ => N - (intOf i).toNat)
  case atStart => exact ⟨0, _, _, Nat.zero_le _, rfl, hK, Lib.hid PB.start, bx1, hb1⟩
  case round =>
    clear hK hb1 bx1
    obtain ⟨k, cs, f, hk, rfl, hK, HI, bX, hbr⟩ := hrel
    by_cases hlt : k < N
    · obtain ⟨be, oe, A', n', c', hA', hce, hre⟩ := hx.at_ hlt
      subst hA'
      have ra1 := hre.cap; have ra2 := hre.top
      have HR := Lib.hid hre.len
      have HB := Lib.hid (HE.out k hlt)
      have hce0 := keeps_below hbr _ _ hce
      obtain ⟨bi, oi, hC, hcik0⟩ := hi.at_ hlt
      subst hC
      go_wp2
      go_loopw [30] (fun i wi => ∃ (j : Nat) (cs : List Value) (f : Nat → List Int), j ≤ n' ∧ i = .int .i64 (j : Int) ∧ BK wi w.heap.size N (w.heap.size + 1) cs f ∧ Hid (PB E N (fun v u => gb ins v = true ∧ gb ins u = true) k j f) ∧ Box wi w.heap.size 47 #[.slice (some ⟨bi, oi, none⟩) N dw] ∧ Below w.heap.size w wi) (fun i _ => n' - (intOf i).toNat)
      case atStart => exact ⟨0, cs, f, Nat.zero_le _, rfl, hK, HI, bX, hbr⟩
      case round =>
        clear hK hbr hce0 HI bX
        obtain ⟨j, cs, f, hj, rfl, hK, HI, bX, hbr⟩ := hrel
        have hsz := hbr.size
        have qw : wr.cell? ⟨w.heap.size, 0, none⟩ = some (.slice (some ⟨bi, oi, none⟩) N dw) := bX.cell 0
        have hcik := keeps_below hbr _ _ hcik0
        by_cases hjl : j < n'
        · obtain ⟨bj, oj, hA2, hcj0⟩ := hre.at_ hjl
          subst hA2
          have hcj := keeps_below hbr _ _ hcj0
          obtain ⟨u, hu, hun⟩ := HB.out.2 j (by rw [HR.out]; exact hjl)
          have HU := Lib.hid hu
          have HJ : Hid (j < (gl E k).length) := Lib.hid (by rw [HR.out]; exact hjl)
          rw [hu] at hcj
          obtain ⟨bi2, oi2, hC2, hciu0⟩ := hi.at_ hun
          injection hC2 with hC2
          injection hC2 with hC3 hC4
          subst hC3; subst hC4
          have hciu := keeps_below hbr _ _ hciu0
          clear hu
          cases hkk : gb ins k with
          | false =>
            have HKK := Lib.hid hkk
            rw [hkk] at hcik
            clear hkk
            go_wp2
            go_roundw
            case rel => exact ⟨j + 1, cs, f, by omega, by go_num, hK, Lib.hid (HI.out.no HJ.out HU.out (fun h => by have := h.1; rw [HKK.out] at this; cases this)), bX, hbr⟩
            case measure => simp [intOf]; omega
          | true =>
            have HKK := Lib.hid hkk
            rw [hkk] at hcik
            clear hkk
            cases huu : gb ins u with
            | false =>
              have HUU := Lib.hid huu
              rw [huu] at hciu
              clear huu
              go_wp2
              go_roundw
              case rel => exact ⟨j + 1, cs, f, by omega, by go_num, hK, Lib.hid (HI.out.no HJ.out HU.out (fun h => by have := h.2; rw [HUU.out] at this; cases this)), bX, hbr⟩
              case measure => simp [intOf]; omega
            | true =>
              have HUU := Lib.hid huu
              rw [huu] at hciu
              clear huu
              obtain ⟨hcu, hfu⟩ := hK.cell hun
              have hou := hK.2.1 u (by rw [hK.len]; exact hun)
              have hll : (f u).length ≤ 4194304 := by have h1 := HI.out.few u hun; have h2 := HB.out.1; rw [HR.out] at h2; omega
              have HK2 := Lib.hid hK
              go_wp2_with (at_builtin; refine wpList_pushI rfl (.tmp 49) (.tmp 51) rfl wr w.heap.size (gv cs u) (f u) rfl hou (k : Int) rfl hll hsz ?_; intro v3 w3 ho3 hb3 hc3 hat3; obtain ⟨A3, c3', hv3⟩ := ho3.form; rw [List.length_append, List.length_singleton] at hv3; subst hv3; have k3 := row_chg HK2.out.1 hc3 (fun z hz e => own_ne hou HK2.out.1 (by decide) z e hz); have c3 := row_cell k3 (j := u) (by omega); have f3 := World.ownsRow.frozenAt k3 u)
              have hKn := HK2.out.push hun hc3 ho3 hat3
              have bXn : Box (w3.setCell ⟨w.heap.size + 1, u, none⟩ (.slice A3 ((f u).length + 1) c3')) w.heap.size 47 #[.slice (some ⟨bi, oi, none⟩) N dw] := Box.far (p := ⟨w.heap.size + 1, u, none⟩) ((hc3.block _ bX.lt (fun e => row_nbox hou bX (by decide) e)).trans bX) (show w.heap.size ≠ w.heap.size + 1 by omega) _
              have hbn : Below w.heap.size w (w3.setCell ⟨w.heap.size + 1, u, none⟩ (.slice A3 ((f u).length + 1) c3')) := below_set (by show w.heap.size ≤ w.heap.size + 1; omega) (hbr.trans hb3)
              go_roundw
              case rel => exact ⟨j + 1, _, _, by omega, by go_num, hKn, Lib.hid (HI.out.yes HJ.out HU.out ⟨HKK.out, HUU.out⟩), bXn, hbn⟩
              case measure => simp [intOf]; omega
        · obtain rfl : j = n' := by omega
          go_wp2
          exact ⟨⟨k + 1, cs, f, by omega, by go_num, hK, Lib.hid (HI.out.row (by rw [HR.out]; exact Nat.le_refl _) (by have := HB.out.1; rw [HR.out] at this; exact this)), bX, hbr⟩, by simp [intOf]; omega⟩
    · obtain rfl : k = N := by omega
      obtain ⟨w4, rfl⟩ : ∃ w4 : World, w4 = wr := ⟨_, rfl⟩
      have hback : RII w4 (some ⟨w.heap.size + 1, 0, none⟩) k k ((List.range k).map f) := hK.reads (by simp) (fun i hi => by simp [gl, hi])
      have HBK := Lib.hid (fun x y => back_rw (x := x) (y := y) HI.out HIL.out)
      have HBE : Hid (∀ x, x < k → ∀ j, j < (gl ((List.range k).map f) x).length → ∃ m : Nat, gi (gl ((List.range k).map f) x) j = (m : Int) ∧ m < k) := Lib.hid (fun x hx' j hj => by
        rw [show gl ((List.range k).map f) x = f x by simp [gl, hx']] at hj ⊢
        obtain ⟨v, e, ho, _⟩ := (HI.out.mem x hx' _).1 (gi_mem hj)
        exact ⟨v, e, lt_ins HIL.out ho.1⟩)
      generalize (List.range k).map f = Eb at *
      have hmf : ∀ (fn : Fn) (first cap : Array Value) (w : World), (Instr.makeFunc fn first cap).run Tryz.prog w = .ok (.func fn first cap) w := fun _ _ _ _ => rfl
      have qw : w4.cell? ⟨w.heap.size, 0, none⟩ = some (.slice Cw k dw) := bX.cell 0
      have hsr : w4.heap.size = w4.heap.size := rfl
      have HZr := Lib.hid hsr; clear hsr
      have hbar := Below.refl w4.heap.size w4
      go_wp2_with (refine wpList_makeB rfl (.tmp 57) rfl _ k rfl (by omega) ?_; intro w5 hown5 hb5; rw [HZr.out] at hown5 ⊢; replace hb5 := below_then hb5 hbar.size hbar; replace hown5 := hown5.more (lo' := w4.heap.size) (by omega); clear hbar; have hvs := store_box (v := .func (.func 65) #[] #[.pointer (some ⟨w5.heap.size, 0, none⟩), .pointer (some ⟨w.heap.size, 0, none⟩), .pointer (some ⟨w5.heap.size + 1 + 1 + 1, 0, none⟩)]) (show Box ((((w5.alloc (.cells #[.slice (some ⟨w4.heap.size, 0, none⟩) k k] 47)).alloc (.cells #[] 2)).alloc (.cells #[.slice (some ⟨w5.heap.size + 1, 0, none⟩) 0 0] 27)).alloc (.cells #[.nilFunc] 80)) (w5.heap.size + 1 + 1 + 1) 80 #[.nilFunc] from Box.new' (by simp)) rfl)
      have hs5 := hb5.size
      have hw5 : Below w.heap.size w w5 := below_then hb5 hbr.size hbr
      have bX5 := bX.below hb5 bX.lt
      have hlt5 := (hown5.lt _ rfl).2
      have VB : VS ((((w5.alloc (.cells #[.slice (some ⟨w4.heap.size, 0, none⟩) k k] 47)).alloc (.cells #[] 2)).alloc (.cells #[.slice (some ⟨w5.heap.size + 1, 0, none⟩) 0 0] 27)).alloc (.cells #[.func (.func 65) #[] #[.pointer (some ⟨w5.heap.size, 0, none⟩), .pointer (some ⟨w.heap.size, 0, none⟩), .pointer (some ⟨w5.heap.size + 1 + 1 + 1, 0, none⟩)]] 80)) w4.heap.size w4.heap.size k w5.heap.size w4.heap.size w.heap.size (w5.heap.size + 1 + 1 + 1) (w5.heap.size + 1 + 1) (.slice Cw k dw) (.func (.func 65) #[] #[.pointer (some ⟨w5.heap.size, 0, none⟩), .pointer (some ⟨w.heap.size, 0, none⟩), .pointer (some ⟨w5.heap.size + 1 + 1 + 1, 0, none⟩)]) (List.replicate k false) (nts []) := by
        have al : ∀ (x : World) (o : Obj), Below x.heap.size x (x.alloc o) := fun x o => below_alloc (Nat.le_refl _) (Below.refl _ _)
        refine ⟨(((Box.new w5 _ _).alloc _).alloc _).alloc _, ((((hown5.below (al _ _)).below (al _ _)).below (al _ _)).below (al _ _)), (((bX5.alloc _).alloc _).alloc _).alloc _, Box.new' (by simp), ⟨some ⟨w5.heap.size + 1, 0, none⟩, 0, (Box.new' (by simp)).alloc _, ?_⟩, by omega⟩
        have h : OI 2 ((w5.alloc (.cells #[.slice (some ⟨w4.heap.size, 0, none⟩) k k] 47)).alloc (.cells #[] 2)) w4.heap.size (.slice (some ⟨w5.heap.size + 1, 0, none⟩) 0 0) [] := by
          have h := OI.empty (E := 2) (w := w5.alloc (.cells #[.slice (some ⟨w4.heap.size, 0, none⟩) k k] 47)) (B := w4.heap.size) (by simp; omega)
          simpa using h
        exact (h.below (al _ _)).below (al _ _)
      have hwB : Below w4.heap.size w4 ((((w5.alloc (.cells #[.slice (some ⟨w4.heap.size, 0, none⟩) k k] 47)).alloc (.cells #[] 2)).alloc (.cells #[.slice (some ⟨w5.heap.size + 1, 0, none⟩) 0 0] 27)).alloc (.cells #[.func (.func 65) #[] #[.pointer (some ⟨w5.heap.size, 0, none⟩), .pointer (some ⟨w.heap.size, 0, none⟩), .pointer (some ⟨w5.heap.size + 1 + 1 + 1, 0, none⟩)]] 80)) := by
        repeat (first | exact hb5 | refine below_alloc (Nat.le_refl _) ?_)
      have hx4 := hx.keep (keeps_below hbr)
      have hi4 := hi.keep (keeps_below hbr)
      have hne4 : ∀ (a : Addr) (u : Value), w4.cell? a = some u → (∀ b, u ≠ .bool b) → a.block ≠ w4.heap.size := fun a u hc _ => by have := World.block_lt_of_cell? w4 _ hc; omega
      have hCw4 : ∀ b o, Cw = some ⟨b, o, none⟩ → 0 < k → b ≠ w4.heap.size := fun b o e h0 => by
        obtain ⟨b', o', e', hc⟩ := hi4.at_ h0
        rw [e] at e'
        injection e' with e'
        injection e' with e1 _
        have := World.block_lt_of_cell? w4 _ hc
        simp only at this
        omega
      have HN4 := Lib.hid hne4
      have HC4 := Lib.hid hCw4
      have HE2 := Lib.hid (fun x hx' => (HE.out x hx').2)
      have ht2 : ∀ (w' : World) (ls : List Bool) (L : List Int) (x : Nat), VS w' w4.heap.size w4.heap.size k w5.heap.size w4.heap.size w.heap.size (w5.heap.size + 1 + 1 + 1) (w5.heap.size + 1 + 1) (.slice Cw k dw) (.func (.func 65) #[] #[.pointer (some ⟨w5.heap.size, 0, none⟩), .pointer (some ⟨w.heap.size, 0, none⟩), .pointer (some ⟨w5.heap.size + 1 + 1 + 1, 0, none⟩)]) ls L → L.length ≤ 4194304 → w4.heap.size ≤ w'.heap.size →
          Calls Tryz.prog 66 (#[.int .i64 (x : Int)] ++ #[.pointer (some ⟨w5.heap.size + 1 + 1, 0, none⟩)]) w' fun e w'' => e = .returned (.tuple #[]) ∧ VS w'' w4.heap.size w4.heap.size k w5.heap.size w4.heap.size w.heap.size (w5.heap.size + 1 + 1 + 1) (w5.heap.size + 1 + 1) (.slice Cw k dw) (.func (.func 65) #[] #[.pointer (some ⟨w5.heap.size, 0, none⟩), .pointer (some ⟨w.heap.size, 0, none⟩), .pointer (some ⟨w5.heap.size + 1 + 1 + 1, 0, none⟩)]) ls (L ++ [(x : Int)]) ∧ Fr w4.heap.size w4.heap.size w' w'' := fun w' ls L x h h1 h2 => (tell2 w' _ _ _ _ _ _ _ _ _ _ ls L x h h1 h2).mono fun _ _ ⟨e, v, b⟩ => ⟨e, v, Fr.of b⟩
      have HT2 := Lib.hid ht2
      clear hne4 hCw4 ht2 hown5 hvs hK
      go_loopw [63] (fun i wr => ∃ (j : Nat) (ls : List Bool) (O : List Nat), j ≤ k ∧ i = .int .i64 (j : Int) ∧ VS wr w4.heap.size w4.heap.size k w5.heap.size w4.heap.size w.heap.size (w5.heap.size + 1 + 1 + 1) (w5.heap.size + 1 + 1) (.slice Cw k dw) (.func (.func 65) #[] #[.pointer (some ⟨w5.heap.size, 0, none⟩), .pointer (some ⟨w.heap.size, 0, none⟩), .pointer (some ⟨w5.heap.size + 1 + 1 + 1, 0, none⟩)]) ls (nts O) ∧ Hid (DfsL (RW E ins) (fun _ => False) O ∧ ls.length = k ∧ (∀ u, gb ls u = true ↔ u ∈ O) ∧ (∀ x, x < j → gb ins x = true → x ∈ O) ∧ O.length + cntF ls = k ∧ ∀ u, u ∈ O → gb ins u = true) ∧ Fr w4.heap.size w4.heap.size w4 wr) (fun i _ => k - (intOf i).toNat)
      case atStart => exact ⟨0, _, [], Nat.zero_le _, rfl, VB, Lib.hid ⟨DfsL.nil _ _, by simp, fun u => ⟨fun h => (by rw [gb_repF] at h; cases h), fun h => (by cases h)⟩, fun x h => absurd h (by omega), by simp [cntF, List.countP_replicate], fun u h => (by cases h)⟩, Fr.of hwB⟩
      case round =>
        clear VB hwB
        obtain ⟨j, ls, O, hj, rfl, V, HI1, hFr⟩ := hrel
        have qd : wr.cell? ⟨w5.heap.size, 0, none⟩ = some (.slice (some ⟨w4.heap.size, 0, none⟩) k k) := V.bD.cell 0
        have qw : wr.cell? ⟨w.heap.size, 0, none⟩ = some (.slice Cw k dw) := V.bW.cell 0
        have qv : wr.cell? ⟨w5.heap.size + 1 + 1 + 1, 0, none⟩ = some (.func (.func 65) #[] #[.pointer (some ⟨w5.heap.size, 0, none⟩), .pointer (some ⟨w.heap.size, 0, none⟩), .pointer (some ⟨w5.heap.size + 1 + 1 + 1, 0, none⟩)]) := V.bV.cell 0
        by_cases hjk : j < k
        · obtain ⟨bi, oi, hC, hci0⟩ := hi4.at_ hjk
          have hci := hFr.cell hci0 (HC4.out _ _ hC (by omega))
          have hcm := V.oK.at_ (i := j) (by rw [HI1.out.2.1]; exact hjk)
          have HCe := Lib.hid hC
          cases hin : gb ins j with
          | false =>
            have HIN := Lib.hid hin
            rw [hin] at hci
            subst hC
            clear hin
            go_wp2
            go_roundw
            case rel => exact ⟨j + 1, ls, O, by omega, by go_num, V, Lib.hid ⟨HI1.out.1, HI1.out.2.1, HI1.out.2.2.1, fun x hx' hix => by
              by_cases e : x = j
              · rw [e, HIN.out] at hix; cases hix
              · exact HI1.out.2.2.2.1 x (by omega) hix, HI1.out.2.2.2.2⟩, hFr⟩
            case measure => simp [intOf]; omega
          | true =>
            have HIN := Lib.hid hin
            rw [hin] at hci
            clear hin
            cases hmk : gb ls j with
            | true =>
              have HMK := Lib.hid hmk
              rw [hmk] at hcm
              subst hC
              clear hmk
              go_wp2
              go_roundw
              case rel => exact ⟨j + 1, ls, O, by omega, by go_num, V, Lib.hid ⟨HI1.out.1, HI1.out.2.1, HI1.out.2.2.1, fun x hx' hix => by
                by_cases e : x = j
                · rw [e]; exact (HI1.out.2.2.1 j).1 HMK.out
                · exact HI1.out.2.2.2.1 x (by omega) hix, HI1.out.2.2.2.2⟩, hFr⟩
              case measure => simp [intOf]; omega
            | false =>
              have hcall := visitC w4 w4.heap.size k w5.heap.size w4.heap.size w.heap.size (w5.heap.size + 1 + 1 + 1) (w5.heap.size + 1 + 1) Cw At dw ct E ins 66 hN hx4 hi4 HE2.out HN4.out (fun b o e => HC4.out b o e (by omega)) tell2_enter HT2.out (cntF ls) wr ls (nts O) j (Nat.le_refl _) hFr V HI1.out.2.1 hjk HIN.out hmk (by have := HI1.out.2.2.2.2.1; rw [nts_len]; omega)
              rw [hmk] at hcm
              subst hC
              have hve := visit_enter
              clear hmk
              go_wp2_with fail
              refine hcall.mono ?_; rintro e w6 ⟨rfl, l2, K2, hD2, hl2, V2, hFr2⟩
              have HD2 := Lib.hid hD2
              have HL2 := Lib.hid hl2
              have hFr3 := hFr.then hFr2
              clear hcall hD2 hl2 qd qw qv hci hcm V
              go_wp2
              go_roundw
              case rel =>
                refine ⟨j + 1, l2, O ++ K2, by omega, by go_num, by rw [nts_app]; exact V2, Lib.hid ⟨HI1.out.1.app (HD2.out.cong (fun u => (HI1.out.2.2.1 u).trans ⟨fun h => .inr h, fun h => h.resolve_left id⟩)).toDfsL, HL2.out.1, fun u => ?_, fun x hx' hix => ?_, ?_⟩, hFr3⟩
                · rw [HL2.out.2.1 u, HI1.out.2.2.1 u, List.mem_append]
                · by_cases e : x = j
                  · rw [e]; exact List.mem_append.2 (.inr HD2.out.mem)
                  · exact List.mem_append.2 (.inl (HI1.out.2.2.2.1 x (by omega) hix))
                · refine ⟨by have h1 := HL2.out.2.2; have h2 := HI1.out.2.2.2.2.1; rw [List.length_append]; omega, fun u hu => ?_⟩
                  rcases List.mem_append.1 hu with h | h
                  · exact HI1.out.2.2.2.2.2 u h
                  · rcases HD2.out.sound u h with h3 | h3
                    · rw [h3]; exact HIN.out
                    · obtain ⟨x, hx'⟩ := h3.last
                      exact hx'.1.2.1
              case measure => simp [intOf]; omega
        · obtain rfl : j = k := by omega
          obtain ⟨w7, rfl⟩ : ∃ w7 : World, w7 = wr := ⟨_, rfl⟩
          have hb7 : Below w4.heap.size w4 w7 := hFr.below (Nat.le_refl _) (fun x h => h.elim (fun e => by omega) id)
          obtain ⟨A7, c7, bO7, hO7⟩ := V.oL
          rw [nts_len] at bO7 hO7
          have bD7 := V.bD; have bW7 := V.bW; have bV7 := V.bV
          have hbo7 := bO7.lt
          have hbX := bX.lt
          have HOl : Hid (O.length ≤ j) := Lib.hid (by have := HI1.out.2.2.2.2.1; omega)
          have HON : Hid (∀ u, u ∈ O → u < j) := Lib.hid (fun u hu => lt_ins HI1.out.2.1 ((HI1.out.2.2.1 u).2 hu))
          have e0 : IntKind.i64.wrap ((O.length : Int) - 1) = (O.length : Int) - 1 := IntWalk.i64_in _ (by have := HOl.out; omega)
          have hs7 := hb7.size
          clear V qd qw qv hFr
          go_wp2_with (refine wpList_makeB rfl (.tmp 84) rfl _ j rfl (by omega) ?_; intro w8 hown8 hb8; have bD8 := bD7.below hb8 bD7.lt; have k8 : w8.cell? ⟨w5.heap.size, 0, none⟩ = some (.slice (some ⟨w4.heap.size, 0, none⟩) j j) := bD8.cell 0; have f8 := bD8.hot 0; have bO8 := bO7.below hb8 bO7.lt; have bO9 := (bO8.far (p := ⟨w5.heap.size, 0, none⟩) (show w5.heap.size + 1 + 1 ≠ w5.heap.size by omega) (.slice (some ⟨w7.heap.size, 0, none⟩) j j)).alloc (.cells #[] 27); have q9 : ((w8.setCell ⟨w5.heap.size, 0, none⟩ (.slice (some ⟨w7.heap.size, 0, none⟩) j j)).alloc (.cells #[] 27)).cell? ⟨w5.heap.size + 1 + 1, 0, none⟩ = some (.slice A7 O.length c7) := bO9.cell 0)
          have hs8 := hb8.size
          have HZE : Hid (((w8.setCell ⟨w5.heap.size, 0, none⟩ (.slice (some ⟨w7.heap.size, 0, none⟩) j j))).heap.size = w8.heap.size) := Lib.hid (by simp)
          have hb78 : Below w4.heap.size w4 w8 := below_then hb8 hs7 hb7
          have hbE : Below w4.heap.size w4 ((w8.setCell ⟨w5.heap.size, 0, none⟩ (.slice (some ⟨w7.heap.size, 0, none⟩) j j)).alloc (.cells #[] 27)) := below_alloc (by simp <;> omega) (below_set (p := ⟨w5.heap.size, 0, none⟩) (by show w4.heap.size ≤ w5.heap.size; exact hs5) hb78)
          have hem : OLR w ((w8.setCell ⟨w5.heap.size, 0, none⟩ (.slice (some ⟨w7.heap.size, 0, none⟩) j j)).alloc (.cells #[] 27)) w7.heap.size (.slice (some ⟨w8.heap.size, 0, none⟩) 0 0) [] := by
            have h := OLR.empty (w0 := w) (w := w8.setCell ⟨w5.heap.size, 0, none⟩ (.slice (some ⟨w7.heap.size, 0, none⟩) j j)) (lo := w7.heap.size) (by simp; omega)
            simpa using h
          have SVE : SV ((w8.setCell ⟨w5.heap.size, 0, none⟩ (.slice (some ⟨w7.heap.size, 0, none⟩) j j)).alloc (.cells #[] 27)) w4.heap.size j w5.heap.size w7.heap.size w.heap.size (w5.heap.size + 1 + 1 + 1) (w5.heap.size + 1 + 1) (.slice Cw j dw) (.func (.func 65) #[] #[.pointer (some ⟨w5.heap.size, 0, none⟩), .pointer (some ⟨w.heap.size, 0, none⟩), .pointer (some ⟨w5.heap.size + 1 + 1 + 1, 0, none⟩)]) (.slice A7 O.length c7) (List.replicate j false) (nts O) := by
            have al : ∀ (x : World) (o : Obj), Below x.heap.size x (x.alloc o) := fun x o => below_alloc (Nat.le_refl _) (Below.refl _ _)
            have far : ∀ {b : Nat} {t : TypeId} {xs : Array Value}, Box w7 b t xs → b ≠ w5.heap.size → Box ((w8.setCell ⟨w5.heap.size, 0, none⟩ (.slice (some ⟨w7.heap.size, 0, none⟩) j j)).alloc (.cells #[] 27)) b t xs := fun hb hne => ((hb.below hb8 hb.lt).far (p := ⟨w5.heap.size, 0, none⟩) hne _).alloc _
            have hch := Chg.set (w := w8) ⟨w5.heap.size, 0, none⟩ (.slice (some ⟨w7.heap.size, 0, none⟩) j j)
            refine ⟨(bD8.set_ 0 _).alloc _, ?_, far bW7 (by omega), far bV7 (by omega), far bO7 (by omega), ?_⟩
            · have h9 : OB 4 (w8.setCell ⟨w5.heap.size, 0, none⟩ (.slice (some ⟨w7.heap.size, 0, none⟩) j j)) w4.heap.size (.slice (some ⟨w7.heap.size, 0, none⟩) j j) (List.replicate j false) := (hown8.more (lo' := w4.heap.size) (by omega)).chg hch (fun z hz e => by
                have h1 := (hown8.lt z hz).1
                have h2 : z = w5.heap.size := e
                omega)
              exact h9.below (al _ _)
            · have h0 := hO7.below hb8
              exact (h0.chg hch (fun z hz e => row_nbox h0 bD8 (by decide) (by have h3 : z = w5.heap.size := e; rw [hz, h3]))).below (al _ _)
          have HP0 : Hid (P2 (RW E ins) O j O.length (List.replicate j false) []) := Lib.hid P2.start
          have hbo7' : w5.heap.size + 1 + 1 < w7.heap.size := hbo7
          clear hown8 bD8 k8 f8 bO8 bO9 hb78 bO7 hO7 bD7 bW7 bV7 hb7 hb8
          go_loopw [14, 15] (fun t i wr => ∃ (kk : Nat) (z : Int) (ls : List Bool) (ps : List (List Int)) (g c : Nat), kk ≤ O.length ∧ z = (kk : Int) - 1 ∧ i = .int .i64 z ∧ t = .slice (some ⟨g, 0, none⟩) ps.length c ∧ OLR w wr w7.heap.size (.slice (some ⟨g, 0, none⟩) ps.length c) ps ∧ SV wr w4.heap.size j w5.heap.size w7.heap.size w.heap.size (w5.heap.size + 1 + 1 + 1) (w5.heap.size + 1 + 1) (.slice Cw j dw) (.func (.func 65) #[] #[.pointer (some ⟨w5.heap.size, 0, none⟩), .pointer (some ⟨w.heap.size, 0, none⟩), .pointer (some ⟨w5.heap.size + 1 + 1 + 1, 0, none⟩)]) (.slice A7 O.length c7) ls (nts O) ∧ Hid (P2 (RW E ins) O j kk ls ps) ∧ Below w4.heap.size w4 wr) (fun _ i _ => (intOf i + 1).toNat)
          case atStart => exact ⟨O.length, _, _, [], _, _, Nat.le_refl _, rfl, rfl, rfl, hem, SVE, HP0, hbE⟩
          case round =>
            clear hem SVE hbE q9 HP0 HZE hs8
            obtain ⟨kk, z, ls, ps, g, c, hkk, hz, rfl, rfl, hol, SVr, HPk, hbr4⟩ := hrel
            have hsr4 := hbr4.size
            have hll : ps.length ≤ 4194304 := by have := HPk.out.few; have := HOl.out; omega
            by_cases h0 : kk = 0
            · have hneg : ¬ 0 ≤ z := by omega
              have hneg2 : z < 0 := by omega
              subst h0
              have hwr := below_then hbr4 hbr.size hbr
              have hgl := World.ownsRow.lt hol.choose_spec.1 g rfl
              have hsort := sortOLR w wr hol (fun w' hc => keeps_below (hwr.trans (hc.below hwr.size (fun x e => by have := hbr.size; omega)))) hll
              have HCH : Hid (∀ w', Chg (fun b => b = g) wr w' → Below w.heap.size w w') := Lib.hid (fun w' hc => hwr.trans (hc.below hwr.size (fun x e => by have := hbr.size; omega)))
              clear hol SVr
              go_wp2_with fail
              refine hsort.mono ?_; rintro e w' ⟨rfl, E', hp, hr', hc'⟩
              have HC' := Lib.hid hc'
              have HPE := Lib.hid hp
              clear hsort hc' hp
              go_wp2
              go_ret
              have hpl := HPE.out.length_eq
              have hfin := HPk.out.fin (fun v hb => by
                obtain ⟨x, hx'⟩ := hb.1.first
                exact HI1.out.2.2.2.1 v (lt_ins HIL.out hx'.1) hx'.1)
              refine ⟨some ⟨g, 0, none⟩, c, E', by rw [hpl]; rfl, by rw [hpl]; exact hr', ⟨⟨fun p hp => hfin.1 p (HPE.out.mem_iff.1 hp), fun v hb => ?_⟩, fun p hp => HPk.out.sets p (HPE.out.mem_iff.1 hp), by have := HPk.out.few; have := HOl.out; omega⟩, (HCH.out w' HC'.out).mono hB⟩
              obtain ⟨p, h1, h2⟩ := hfin.2 v hb
              exact ⟨p, HPE.out.mem_iff.2 h1, h2⟩
            · obtain ⟨m, rfl⟩ : ∃ m, kk = m + 1 := ⟨kk - 1, by omega⟩
              obtain rfl : z = (m : Int) := by omega
              have hm : m < O.length := by omega
              clear hz h0
              have e2 : IntKind.i64.wrap ((m : Int) - 1) = (m : Int) - 1 := IntWalk.i64_in _ (by have := HOl.out; omega)
              obtain ⟨v, hvO⟩ : ∃ v, v = O[m] := ⟨_, rfl⟩
              have HvO := Lib.hid hvO
              have hvm : v ∈ O := by rw [hvO]; exact List.getElem_mem _
              have hvj := HON.out v hvm
              have hiv := HI1.out.2.2.2.2.2 v hvm
              have hco : gi (nts O) m = (v : Int) := by rw [hvO]; simp [gi, nts, hm]
              obtain ⟨bo7, oo7, hA7, hc0⟩ := (show RI wr A7 O.length c7 (nts O) by have h := SVr.oO; have e := nts_len O; rw [← e] at h ⊢; exact h.reads).at_ hm
              subst hA7
              rw [hco] at hc0
              have qo : wr.cell? ⟨w5.heap.size + 1 + 1, 0, none⟩ = some (.slice (some ⟨bo7, oo7, none⟩) O.length c7) := SVr.bO.cell 0
              have qd : wr.cell? ⟨w5.heap.size, 0, none⟩ = some (.slice (some ⟨w7.heap.size, 0, none⟩) j j) := SVr.bD.cell 0
              have qv : wr.cell? ⟨w5.heap.size + 1 + 1 + 1, 0, none⟩ = some (.func (.func 65) #[] #[.pointer (some ⟨w5.heap.size, 0, none⟩), .pointer (some ⟨w.heap.size, 0, none⟩), .pointer (some ⟨w5.heap.size + 1 + 1 + 1, 0, none⟩)]) := SVr.bV.cell 0
              have hcm := SVr.oK.at_ (i := v) (by rw [HPk.out.len]; exact hvj)
              clear hco hvO
              cases hmk : gb ls v with
              | true =>
                have HMK := Lib.hid hmk
                rw [hmk] at hcm
                clear hmk
                go_wp2
                go_roundw
                case rel => exact ⟨m, (m : Int) - 1, ls, ps, g, c, by omega, rfl, by go_num, rfl, hol, SVr, Lib.hid (HPk.out.skip hm (by rw [← HvO.out]; exact HMK.out)), hbr4⟩
                case measure => exact (show ((m : Int) - 1 + 1).toNat < ((m : Int) + 1).toNat by omega)
              | false =>
                obtain ⟨csr, holr, _⟩ := id hol
                have hbp : Below wr.heap.size wr ((wr.alloc (.cells #[] 2)).alloc (.cells #[.slice (some ⟨wr.heap.size, 0, none⟩) 0 0] 27)) := below_alloc (by simp) (below_alloc (Nat.le_refl _) (Below.refl _ _))
                have VSp : VS ((wr.alloc (.cells #[] 2)).alloc (.cells #[.slice (some ⟨wr.heap.size, 0, none⟩) 0 0] 27)) w4.heap.size wr.heap.size j w5.heap.size w7.heap.size w.heap.size (w5.heap.size + 1 + 1 + 1) (wr.heap.size + 1) (.slice Cw j dw) (.func (.func 65) #[] #[.pointer (some ⟨w5.heap.size, 0, none⟩), .pointer (some ⟨w.heap.size, 0, none⟩), .pointer (some ⟨w5.heap.size + 1 + 1 + 1, 0, none⟩)]) ls (nts []) := by
                  have al : ∀ (x : World) (o : Obj), Below x.heap.size x (x.alloc o) := fun x o => below_alloc (Nat.le_refl _) (Below.refl _ _)
                  refine ⟨SVr.bD.below hbp SVr.bD.lt, SVr.oK.below hbp, SVr.bW.below hbp SVr.bW.lt, SVr.bV.below hbp SVr.bV.lt, ⟨some ⟨wr.heap.size, 0, none⟩, 0, Box.new' (by simp), ?_⟩, Nat.le_succ _⟩
                  have h := OI.empty (E := 2) (w := wr) (B := wr.heap.size) (Nat.le_refl _)
                  exact h.below (al _ _)
                have ht3 : ∀ (w' : World) (ls : List Bool) (L : List Int) (x : Nat), VS w' w4.heap.size wr.heap.size j w5.heap.size w7.heap.size w.heap.size (w5.heap.size + 1 + 1 + 1) (wr.heap.size + 1) (.slice Cw j dw) (.func (.func 65) #[] #[.pointer (some ⟨w5.heap.size, 0, none⟩), .pointer (some ⟨w.heap.size, 0, none⟩), .pointer (some ⟨w5.heap.size + 1 + 1 + 1, 0, none⟩)]) ls L → L.length ≤ 4194304 → wr.heap.size ≤ w'.heap.size →
                    Calls Tryz.prog 67 (#[.int .i64 (x : Int)] ++ #[.pointer (some ⟨wr.heap.size + 1, 0, none⟩)]) w' fun e w'' => e = .returned (.tuple #[]) ∧ VS w'' w4.heap.size wr.heap.size j w5.heap.size w7.heap.size w.heap.size (w5.heap.size + 1 + 1 + 1) (wr.heap.size + 1) (.slice Cw j dw) (.func (.func 65) #[] #[.pointer (some ⟨w5.heap.size, 0, none⟩), .pointer (some ⟨w.heap.size, 0, none⟩), .pointer (some ⟨w5.heap.size + 1 + 1 + 1, 0, none⟩)]) ls (L ++ [(x : Int)]) ∧ Fr w7.heap.size wr.heap.size w' w'' := fun w' ls L x h h1 h2 => (tell3 w' _ _ _ _ _ _ _ _ _ _ ls L x h h1 h2).mono fun _ _ ⟨e, v, b⟩ => ⟨e, v, Fr.of b⟩
                have hCw7 : ∀ b o, Cw = some ⟨b, o, none⟩ → b ≠ w7.heap.size := fun b o e => by
                  obtain ⟨b', o', e', hc⟩ := hi4.at_ hvj
                  rw [e] at e'
                  injection e' with e'
                  injection e' with e1 _
                  have := World.block_lt_of_cell? w4 _ hc
                  simp only at this
                  omega
                have hcall := visitC wr w4.heap.size j w5.heap.size w7.heap.size w.heap.size (w5.heap.size + 1 + 1 + 1) (wr.heap.size + 1) Cw (some ⟨w.heap.size + 1, 0, none⟩) dw j Eb ins 67 hN (hback.keep (keeps_below hbr4)) (hi4.keep (keeps_below hbr4)) HBE.out (fun a u hc hu => SVr.oK.alone hc hu) hCw7 tell3_enter ht3 (cntF ls) ((wr.alloc (.cells #[] 2)).alloc (.cells #[.slice (some ⟨wr.heap.size, 0, none⟩) 0 0] 27)) ls (nts []) v (Nat.le_refl _) (Fr.of hbp) VSp HPk.out.len hvj hiv hmk (by have h1 := HPk.out.len; have h2 := cntF_le ls; simp [nts]; omega)
                have HMK := Lib.hid hmk
                rw [hmk] at hcm
                have qv2 : ((wr.alloc (.cells #[] 2)).alloc (.cells #[.slice (some ⟨wr.heap.size, 0, none⟩) 0 0] 27)).cell? ⟨w5.heap.size + 1 + 1 + 1, 0, none⟩ = some (.func (.func 65) #[] #[.pointer (some ⟨w5.heap.size, 0, none⟩), .pointer (some ⟨w.heap.size, 0, none⟩), .pointer (some ⟨w5.heap.size + 1 + 1 + 1, 0, none⟩)]) := VSp.bV.cell 0
                have hve := visit_enter
                have HIV := Lib.hid hiv
                clear hmk VSp ht3 hCw7 hiv
                go_wp2_with fail
                refine hcall.mono ?_; rintro e w6 ⟨rfl, l2, K, hD2, hl2, V2, hFr2⟩
                have e1 : nts [] ++ nts K = nts K := rfl
                rw [e1] at V2
                have HD2 := Lib.hid hD2
                have HL2 := Lib.hid hl2
                obtain ⟨Ap, cp, bP, hP⟩ := V2.oL
                have hK0 : 0 < (nts K).length := by rw [nts_len]; exact List.length_pos_of_mem HD2.out.mem
                obtain ⟨gp, cp', e9⟩ := hP.form2 hK0
                injection e9 with e91 _ e92
                subst e91; subst e92
                have HKj : Hid (∀ u, u ∈ K → u < j) := Lib.hid (fun u hu => lt_ins HL2.out.1 ((HL2.out.2.1 u).2 (.inr hu)))
                have hKl : (nts K).length ≤ 4194304 := by have h1 := HL2.out.2.2; have h2 := HPk.out.len; have h3 := cntF_le ls; rw [nts_len]; omega
                have hcs := slicesSort w6 hP hKl
                have hFp := (Fr.of (bk := w7.heap.size) hbp).then hFr2
                have hV2K := V2.oK
                have qp : w6.cell? ⟨wr.heap.size + 1, 0, none⟩ = some (.slice (some ⟨gp, 0, none⟩) (nts K).length cp) := bP.cell 0
                clear hcall hD2 hl2 e1 hK0 hFr2 hbp V2 qo qd qv qv2 hc0 hcm hve
                go_wp2_with fail
                refine hcs.mono ?_; rintro e wS ⟨rfl, hS, hcS⟩
                have FrS : Fr w7.heap.size wr.heap.size wr wS := hFp.then (hcS.mono (fun z e => .inr (by rw [e]; exact (hP.lt gp rfl).1)))
                have oKS : OB 4 wS w4.heap.size (.slice (some ⟨w7.heap.size, 0, none⟩) j j) l2 := hV2K.chg hcS (fun z hz e => own_ne hP hV2K (by decide) z (by rw [e]; rfl) hz)
                have SVS := SVr.fr FrS oKS
                have holS := hol.fr SVr.oK FrS
                have bPS := (hcS.block _ bP.lt (fun e => row_nbox hP bP (by decide) (by rw [e]; rfl))).trans bP
                have hbS : Below w4.heap.size w4 wS := hbr4.trans (FrS.below hsr4 (fun x e => by rcases e with e | e <;> omega))
                have hPs := hS.more (lo' := w7.heap.size) (by have := World.ownsRow.lt holr g rfl; omega)
                have qp : wS.cell? ⟨wr.heap.size + 1, 0, none⟩ = some (.slice (some ⟨gp, 0, none⟩) (nts K).length cp) := Box.cell bPS 0
                have hwS := hbS.size
                have hszS : w7.heap.size ≤ wS.heap.size := Nat.le_of_lt (Nat.lt_of_le_of_lt (World.ownsRow.lt holr g rfl).1 (Nat.lt_of_lt_of_le (World.ownsRow.lt holr g rfl).2 FrS.size))
                have HK : Hid (∀ u, u ∈ K ↔ u = v ∨ Both (RW E ins) v u) := Lib.hid (by
                  have hsp := split_at hm
                  rw [← HvO.out] at hsp
                  have hR : (RW Eb ins) = (fun x y => RW E ins y x) := by funext y x; exact propext (HBK.out x y)
                  have hd := HD2.out
                  rw [hR] at hd
                  exact part_is HI1.out.1.good (fun x y h => ⟨HI1.out.2.2.2.1 x (lt_ins HIL.out h.1) h.1, HI1.out.2.2.2.1 y (lt_ins HIL.out h.2.1) h.2.1⟩) hsp.1 (HPk.out.high' hm) HPk.out.shut (by rw [HMK.out]; decide) hd)
                have hSelf := self_iff HD2.out.nodup HK.out
                have HSE := Lib.hid hSelf
                clear hcs hP bP hFp hV2K hcS FrS oKS hSelf hol SVr hS
                by_cases hK1 : 1 < (nts K).length
                · have HS1 : Hid (Both (RW E ins) v v) := Lib.hid (HSE.out.2 (.inl (by rw [nts_len] at hK1; exact hK1)))
                  go_wp2_with (at_builtin; refine wpList_pushE2 rfl (.tmp 121) (.tmp 123) rfl w wS wS.heap.size rfl w7.heap.size (.slice (some ⟨g, 0, none⟩) ps.length c) ps rfl holS (.slice (some ⟨gp, 0, none⟩) (nts K).length cp) (sortL (nts K)) (.inr hPs) rfl hll hszS ?_; intro v9 w9 ho9 hb9 hc9; obtain ⟨g9, c9, hv9⟩ := ho9.form2 (by simp); subst hv9; have SV9 := SVS.out holS hbo7' hc9)
                  have hb94 : Below w4.heap.size w4 w9 := below_then hb9 hs7 hbS
                  go_roundw
                  case rel => exact ⟨m, (m : Int) - 1, l2, ps ++ [sortL (nts K)], g9, c9, by omega, rfl, by go_num, by simp, ho9, SV9, Lib.hid (HPk.out.take hm (K := K) HL2.out.1 HL2.out.2.1 (by rw [← HvO.out]; exact HK.out) (by rw [← HvO.out]; exact HS1.out) (sort_set HD2.out.nodup HKj.out).2 (sort_set HD2.out.nodup HKj.out).1), hb94⟩
                  case measure => exact (show ((m : Int) - 1 + 1).toNat < ((m : Int) + 1).toNat by omega)
                · have HK1 : Hid (¬ 1 < K.length) := Lib.hid (by rw [nts_len] at hK1; exact hK1)
                  obtain ⟨be, oe, A', n', c', hAt, hce, hre⟩ := (hx4.keep (keeps_below hbS)).at_ hvj
                  subst hAt
                  have hsc := slContains A' n' c' (gl E v) (v : Int) wS hre
                  cases hq : hasL (gl E v) (v : Int) with
                  | true =>
                    rw [hq] at hsc
                    have HS1 : Hid (Both (RW E ins) v v) := Lib.hid (HSE.out.2 (.inr ⟨HIV.out, HIV.out, of_decide_eq_true hq⟩))
                    clear hq
                    go_wp2_with fail
                    refine hsc.mono ?_; rintro e wC ⟨rfl, qC⟩
                    have hbC : Below wS.heap.size wS wC := qC.below _
                    have SVC := SVS.on hbC
                    have holC := holS.below hbC
                    have hPC := hPs.below hbC
                    have qpC : wC.cell? ⟨wr.heap.size + 1, 0, none⟩ = some (.slice (some ⟨gp, 0, none⟩) (nts K).length cp) := keeps_below hbC _ _ qp
                    have hbC4 := below_then hbC hwS hbS
                    have hszC : w7.heap.size ≤ wC.heap.size := Nat.le_trans hszS hbC.size
                    clear hsc hbC SVS holS hPs qp qC hbS hre hce
                    go_wp2_with (at_builtin; refine wpList_pushE2 rfl (.tmp 121) (.tmp 123) rfl w wC wC.heap.size rfl w7.heap.size (.slice (some ⟨g, 0, none⟩) ps.length c) ps rfl holC (.slice (some ⟨gp, 0, none⟩) (nts K).length cp) (sortL (nts K)) (.inr hPC) rfl hll hszC ?_; intro v9 w9 ho9 hb9 hc9; obtain ⟨g9, c9, hv9⟩ := ho9.form2 (by simp); subst hv9; have SV9 := SVC.out holC hbo7' hc9)
                    have hb94 : Below w4.heap.size w4 w9 := below_then hb9 hs7 hbC4
                    go_roundw
                    case rel => exact ⟨m, (m : Int) - 1, l2, ps ++ [sortL (nts K)], g9, c9, by omega, rfl, by go_num, by simp, ho9, SV9, Lib.hid (HPk.out.take hm (K := K) HL2.out.1 HL2.out.2.1 (by rw [← HvO.out]; exact HK.out) (by rw [← HvO.out]; exact HS1.out) (sort_set HD2.out.nodup HKj.out).2 (sort_set HD2.out.nodup HKj.out).1), hb94⟩
                    case measure => exact (show ((m : Int) - 1 + 1).toNat < ((m : Int) + 1).toNat by omega)
                  | false =>
                    rw [hq] at hsc
                    have HS0 : Hid (¬ Both (RW E ins) v v) := Lib.hid (fun h => by
                      rcases HSE.out.1 h with h1 | h1
                      · exact HK1.out h1
                      · have h2 := h1.2.2
                        have h3 := of_decide_eq_false hq
                        exact h3 h2)
                    clear hq
                    go_wp2_with fail
                    refine hsc.mono ?_; rintro e wC ⟨rfl, qC⟩
                    have hbC : Below wS.heap.size wS wC := qC.below _
                    have SVC := SVS.on hbC
                    have holC := holS.below hbC
                    have hbC4 := below_then hbC hwS hbS
                    clear hsc hbC SVS holS hPs qp qC hbS hre hce
                    go_wp2
                    go_roundw
                    case rel => exact ⟨m, (m : Int) - 1, l2, ps, g, c, by omega, rfl, by go_num, rfl, holC, SVC, Lib.hid (HPk.out.none hm (K := K) HL2.out.1 HL2.out.2.1 (by rw [← HvO.out]; exact HK.out) (by rw [← HvO.out]; exact HS0.out)), hbC4⟩
                    case measure => exact (show ((m : Int) - 1 + 1).toNat < ((m : Int) + 1).toNat by omega)
end Go.Proofs.YtjjaolndencplaaGreat
namespace Go.Proofs.YtjjaolndencplaaGreat
open Go.RowKit

set_option maxRecDepth 100000 in
set_option maxHeartbeats 3200000 in
theorem leadTo (A0 A1 C : Option Addr) (n0 c0 n1 c1 d N : Nat) (n : List (List Int)) (ms : List Bool) (w : World) (B : Nat) (hB : B ≤ w.heap.size) (hx : RII w A1 n1 c1 n) (hi : RB w C N d ms) (hn0 : n0 = N) (hn1 : n1 = N) (hN0 : 0 < N) (hN : N ≤ 256)
    (hE : ∀ x, x < N → (gl n x).length ≤ 16 ∧ ∀ j, j < (gl n x).length → ∃ m : Nat, gi (gl n x) j = (m : Int) ∧ m < N) :
    Calls Tryz.prog 29 #[.agg #[.slice A0 n0 c0, .slice A1 n1 c1], .slice C N d] w fun e w' => ∃ (b c : Nat) (out : List Bool), e = .returned (.slice (some ⟨b, 0, none⟩) N c) ∧ OB 4 w' B (.slice (some ⟨b, 0, none⟩) N c) out ∧ (out.length = N ∧ ∀ v, gb out v = true ↔ Comes n (fun u => gb ms u = true) v) ∧ Below B w w' := by
  subst hn0
  subst hn1
  have i1 := hi.cap; have i2 := hi.top
  have HIL := Lib.hid hi.len
  have HNL : Hid (n.length ≤ n1) := Lib.hid (by rw [hx.len]; exact Nat.le_refl _)
  have HE := Lib.hid hE
  have H0 := Lib.hid (AL.start (n := n) (N := n1) (ms := ms) hi.len)
  have hba : Below w.heap.size w (w.alloc (.cells #[.slice A0 n1 c0, .slice A1 n1 c1] 30)) := below_alloc (Nat.le_refl _) (Below.refl _ _)
  have hpr := predsOf A0 A1 n1 c0 n1 c1 n1 n (w.alloc (.cells #[.slice A0 n1 c0, .slice A1 n1 c1] 30)) _ (Nat.le_refl _) (hx.keep (keeps_below hba)) rfl rfl hN hE
  clear hE
  go_enter Tryz.func29, Tryz.ntmps29
  go_wp2_with fail
  refine hpr.mono ?_; rintro e w2 ⟨bb, cs, f, rfl, hK, hPB, hb2⟩
  have HPB := Lib.hid hPB
  have hw2 : Below w.heap.size w w2 := below_then hb2 hba.size hba
  have hrd : RII w2 (some ⟨bb, 0, none⟩) n1 n1 ((List.range n1).map f) := hK.reads (by simp) (fun i hi => by simp [gl, hi])
  have HF : Hid (∀ x, x < n1 → gl ((List.range n1).map f) x = f x) := Lib.hid (fun x hx => by simp [gl, hx])
  have hi2 := hi.keep (keeps_below hw2)
  generalize (List.range n1).map f = P at *
  have hem : OB 4 (w2.alloc (.cells #[] 4)) w2.heap.size (.slice (some ⟨w2.heap.size, 0, none⟩) 0 0) [] := OB.empty (Nat.le_refl _)
  have hbe : Below w2.heap.size w2 (w2.alloc (.cells #[] 4)) := below_alloc (Nat.le_refl _) (Below.refl _ _)
  clear hpr hba hPB hb2 hK
  go_wp2_with (at_builtin; refine wpList_appB rfl (.tmp 13) (.tmp 14) rfl _ w2.heap.size (.slice (some ⟨w2.heap.size, 0, none⟩) 0 0) [] rfl hem C n1 d ms rfl hN0 (hi2.keep (keeps_below hbe)) (by simp) (by omega) hbe.size ?_; intro v3 w3 ho3 hb3; rw [List.nil_append] at ho3; obtain ⟨g, cg, hv3⟩ := ho3.form2 (by rw [HIL.out]; exact hN0); rw [HIL.out] at hv3; subst hv3)
  have hw3 : Below w2.heap.size w2 w3 := hbe.trans hb3
  have hls := listOf C n1 d ms w3 _ (Nat.le_refl _) (hi2.keep (keeps_below hw3)) (by omega)
  clear hem hbe hb3
  try go_wp2_with fail
  refine hls.mono ?_; rintro e w4 ⟨v4, rfl, hq4, hb4⟩
  have ho4 := ho3.below hb4
  have hw4 : Below w2.heap.size w2 w4 := below_then hb4 hw3.size hw3
  have hq := OQ.of hq4
  have hg3 := (ho3.lt g rfl).2
  have hs34 := hb4.size
  have HW2 := Lib.hid hw2
  have hl4 : Hid ((listM ms).length ≤ n1) := Lib.hid (by have := listM_len ms; rw [HIL.out] at this; exact this)
  clear hls hq4 hb4 ho3 hi2 hi hx hw2
  go_wp2
  go_loopg [7] (2 * cntF ms + (listM ms).length) (fun gk t wr => ∃ (T : List Int) (out : List Bool), 2 * cntF out + T.length = gk ∧ OQ wr w3.heap.size t T ∧ OB 4 wr w2.heap.size (.slice (some ⟨g, 0, none⟩) n1 cg) out ∧ Hid (AL n (fun u => gb ms u = true) n1 out T) ∧ Below w2.heap.size w2 wr ∧ w3.heap.size ≤ wr.heap.size)
  case atStart => exact ⟨_, ms, rfl, hq, ho4, H0, hw4, hs34⟩
  case round =>
    clear hq ho4 hw4 hs34
    obtain ⟨T, out, hgk, ho, hb, HI, hbr, hsz⟩ := hrel
    have HG := Lib.hid hgk
    clear hgk
    cases T with
    | nil =>
      obtain ⟨At, ct, rfl, h1, h2⟩ := ho.form
      have hfin := Lib.hid (HI.out.fin HNL.out)
      go_wp2
      go_ret
      exact ⟨_, _, out, rfl, hb.more (Nat.le_trans hB HW2.out.size), ⟨HI.out.len, hfin.out⟩, (HW2.out.trans (hbr.mono HW2.out.size)).mono hB⟩
    | cons x0 r =>
      obtain ⟨x, rfl, hxn⟩ := HI.out.rng x0 List.mem_cons_self
      obtain ⟨gq, off, c, rfl, hc1, hc2, hcell, hq0, hq1⟩ := ho.pop
      have HP := Lib.hid (HI.out.pop (gl P x))
      obtain ⟨be, oe, A', n', c', hA', hce, hre⟩ := hrd.at_ hxn
      injection hA' with hA'
      injection hA' with hA1 hA2
      subst hA1
      subst hA2
      rw [Nat.zero_add] at hce
      have ra1 := hre.cap; have ra2 := hre.top
      have HR := Lib.hid hre.len
      have HB := Lib.hid (show ∀ z : Int, z ∈ gl P x ↔ ∃ v : Nat, z = (v : Int) ∧ v < n1 ∧ (x : Int) ∈ gl n v from fun z => by rw [HF.out x hxn]; exact HPB.out.before HNL.out hxn z)
      have hce0 := keeps_below hbr _ _ hce
      go_upto_region 6 with (fail)
      go_cut [7, 8] (fun u7 u8 wx => Hid (OQ wr w3.heap.size u7 r ∧ u8 = .int .i64 (x : Int) ∧ wx = wr))
      case first =>
        by_cases hc : c = 0
        · subst hc
          have hr0 : r = [] := List.eq_nil_of_length_eq_zero (by omega)
          subst hr0
          have hq := hq0 rfl
          go_wp2_with fail; go_meet
          exact Lib.hid ⟨hq, rfl, rfl⟩
        · have hq := hq1 hc
          have hc' : ¬ c + 1 = 1 := by omega
          go_wp2_with fail; go_meet
          exact Lib.hid ⟨hq, rfl, rfl⟩
      case rest =>
        obtain ⟨hq, hu8, hwx⟩ := hcut.out
        rw [hu8, hwx]
        clear hcut hu8 hwx
        obtain ⟨A8, c8, rfl, hA8, hA9⟩ := hq.form
        clear hq0 hq1 ho
        go_wp2
        go_loopw [7, 31] (fun t i wi => ∃ (T1 : List Int) (out1 : List Bool) (j : Nat), j ≤ n' ∧ i = .int .i64 (j : Int) ∧ OQ wi w3.heap.size t T1 ∧ OB 4 wi w2.heap.size (.slice (some ⟨g, 0, none⟩) n1 cg) out1 ∧ Hid (AM n (fun u => gb ms u = true) n1 x j (gl P x) out1 T1 ∧ 2 * cntF out1 + T1.length ≤ 2 * cntF out + r.length) ∧ Below w2.heap.size w2 wi ∧ w3.heap.size ≤ wi.heap.size) (fun _ i _ => n' - (intOf i).toNat)
        case atStart => exact ⟨_, out, 0, Nat.zero_le _, rfl, hq, hb, Lib.hid ⟨HP.out, Nat.le_refl _⟩, hbr, hsz⟩
        case round =>
          clear hq hb hcell hce0
          obtain ⟨T1, out1, j, hj, rfl, ho1, hb1, HI1, hbi, hsi⟩ := hrel
          obtain ⟨A1', c1', rfl, hA1, hA2⟩ := ho1.form
          by_cases hlt : j < n'
          · obtain ⟨bj, oj, hA2', hcj⟩ := (hre.keep (keeps_below hbi)).at_ hlt
            subst hA2'
            have hmem : gi (gl P x) j ∈ gl P x := gi_mem (by rw [HR.out]; exact hlt)
            obtain ⟨u, hu, hun, hux⟩ := (HB.out _).1 hmem
            have HU := Lib.hid hu
            have HUX := Lib.hid hux
            rw [hu] at hcj
            have HLn := Lib.hid HI1.out.1.len
            have hcu := hb1.at_ (i := u) (by rw [HLn.out]; exact hun)
            have hfz := hb1.hot (i := u) (by rw [HLn.out])
            have hll : T1.length ≤ 4194304 := by have h9 := HI1.out.1.cnt; omega
            clear hu hux hmem
            cases hou : gb out1 u with
            | true =>
              have HOU := Lib.hid hou
              rw [hou] at hcu
              clear hou
              go_wp2
              go_roundw
              case rel => exact ⟨T1, out1, j + 1, by omega, by go_num, ho1, hb1, Lib.hid ⟨HI1.out.1.skip HU.out HOU.out, HI1.out.2⟩, hbi, hsi⟩
              case measure => simp [intOf]; omega
            | false =>
              have HOU := Lib.hid hou
              rw [hou] at hcu
              clear hou
              have hglt := hb1.lt g rfl
              have hoT := ho1.far (p := ⟨g, u, none⟩) (by show g < w3.heap.size; exact hg3) (.bool true)
              have hbS := hb1.set_ (i := u) (by rw [HLn.out]) true
              have hwS := below_set (p := ⟨g, u, none⟩) (u := .bool true) (by show w2.heap.size ≤ g; exact hglt.1) hbi
              have HPt := Lib.hid (HI1.out.1.put HU.out hun HUX.out HOU.out)
              have HC := Lib.hid (cntF_set (ms := out1) (i := u) (by rw [HLn.out]; exact hun) HOU.out)
              go_wp2_with (at_builtin; refine wpList_pushQ rfl (.tmp 43) (.tmp 45) rfl (wr.setCell ⟨g, u, none⟩ (.bool true)) wr.heap.size (by simp) w3.heap.size (.slice A1' T1.length c1') T1 rfl hoT (u : Int) rfl hll hsi ?_; intro t2 w5 ho5 hb5)
              have hcg : Chg (fun z => w3.heap.size ≤ z) (wr.setCell ⟨g, u, none⟩ (.bool true)) w5 := ⟨hb5.os, hb5.tape, hb5.output, hb5.size, fun k _ hk => hb5.block k (by omega)⟩
              have hbE := row_chg hbS hcg (fun z hz e => by
                have h3 : g = z := by simpa [Value.ownBlock] using hz
                omega)
              have hsE : w3.heap.size ≤ w5.heap.size := Nat.le_trans hsi (Nat.le_trans (by simp) hb5.size)
              have hwE := hwS.trans (hb5.mono hw3.size)
              go_roundw
              case rel => exact ⟨T1 ++ [(u : Int)], out1.set u true, j + 1, by omega, by go_num, ho5, hbE, Lib.hid ⟨HPt.out, by have h8 := HI1.out.2; have h9 := HC.out; rw [List.length_append, List.length_singleton]; omega⟩, hwE, hsE⟩
              case measure => simp [intOf]; omega
          · obtain rfl : j = n' := by omega
            go_wp2
            go_roundg (2 * cntF out1 + T1.length)
            case rel => exact ⟨T1, out1, rfl, ho1, hb1, Lib.hid (HI1.out.1.fin (by rw [HR.out]; exact Nat.le_refl _) (fun v hv => (HB.out _).2 ⟨v, rfl, edge_lt HNL.out hv, hv⟩)), hbi, hsi⟩
            case measure =>
              have h8 := HI1.out.2
              have h9 := HG.out
              rw [List.length_cons] at h9
              omega
end Go.Proofs.YtjjaolndencplaaGreat
namespace Go.Proofs.YtjjaolndencplaaGreat
open Go.RowKit

theorem less_memB {a b : List Int} {x : Int} : x ∈ lessL a b ↔ x ∈ a ∧ x ∉ b := by
  unfold lessL lessUp
  rw [mem_pick]
  constructor
  · rintro ⟨i, hi, h, rfl⟩
    exact ⟨gi_mem hi, by simpa [hasL] using h⟩
  · rintro ⟨h1, h2⟩
    obtain ⟨i, hi, rfl⟩ := mem_gi h1
    exact ⟨i, hi, by simpa [hasL] using h2, rfl⟩
theorem less_setB {a : List Int} {n : Int} (h : setB a n = true) (b : List Int) : setB (lessL a b) n = true :=
  setB_of_rises (pick_rises (rises_set h)) fun _ hx => set_mem h (less_memB.1 hx).1
theorem marks_inside (N : Nat) (g : List Int) : mkM N (lessL (allL N) g) = insM N g := by
  refine gb_ext (by rw [mkM_len, insM_len]) fun i hi => ?_
  rw [mkM_len] at hi
  rw [mkM_at hi, insM_at hi]
  have h1 : ((i : Int) ∈ lessL (allL N) g) ↔ (i : Int) ∉ g := by
    rw [less_memB]
    refine ⟨fun h => h.2, fun h => ⟨?_, h⟩⟩
    have h2 := allL_mem (n := N) (i := i) (by rw [allL_len]; exact hi)
    rw [← h2]
    exact gi_mem (by rw [allL_len]; exact hi)
  unfold hasL
  by_cases e : (i : Int) ∈ g
  · rw [decide_eq_false (fun h => (h1.1 h) e), decide_eq_true e]; rfl
  · rw [decide_eq_true (h1.2 e), decide_eq_false e]; rfl
set_option maxRecDepth 100000 in
set_option maxHeartbeats 1600000 in
theorem loopsOf (A0 A1 C : Option Addr) (c0 c1 m d N : Nat) (n : List (List Int)) (s : List Int) (w : World) (B : Nat) (hB : B ≤ w.heap.size) (hx : RII w A1 N c1 n) (hs : RI w C m d s) (hset : setB s (N : Int) = true) (hN : N ≤ 256)
    (hE : ∀ x, x < N → (gl n x).length ≤ 16 ∧ ∀ j, j < (gl n x).length → ∃ m : Nat, gi (gl n x) j = (m : Int) ∧ m < N) :
    Calls Tryz.prog 23 #[.agg #[.slice A0 N c0, .slice A1 N c1], .slice C m d] w fun e w' => ∃ (A : Option Addr) (c : Nat) (ps : List (List Int)), e = .returned (.slice A ps.length c) ∧ RII w' A ps.length c ps ∧ (isParts (RW n (mkM N s)) ps ∧ (∀ p, p ∈ ps → setB p (N : Int) = true) ∧ ps.length ≤ N) ∧ Below B w w' := by
  have hba : Below w.heap.size w (w.alloc (.cells #[.slice A0 N c0, .slice A1 N c1] 30)) := below_alloc (Nat.le_refl _) (Below.refl _ _)
  have bx := Box.new w 30 #[.slice A0 N c0, .slice A1 N c1]
  have q0 := bx.d0; have q1 := bx.d1
  have HE := Lib.hid hE
  have HS := Lib.hid hset
  have HM := Lib.hid (mkM_len N s)
  clear hE hset
  go_enter Tryz.func23, Tryz.ntmps23
  go_wp2_with fail
  go_region_held3 (fun w' => w'.cell? ⟨w.heap.size, 0, none⟩ = some (.slice A0 N c0) ∧ w'.cell? ⟨w.heap.size, 1, none⟩ = some (.slice A1 N c1))
    (refine ⟨?_, ?_⟩ <;> repeat (first | with_reducible assumption | with_reducible refine keepD ?_ | with_reducible refine keepA ?_))
    (first
      | (go_at_call 48
         refine (markOf A0 A1 C N c0 N c1 m d s _ _ (Nat.le_refl _) (hs.keep (keeps_below (Below.drew hba))) HS.out (by omega)).mono ?_
         rintro e w2 ⟨v2, rfl, ho2, hb2⟩
         replace hb2 := below_undrew hb2
         obtain ⟨A2, c2, rfl⟩ := ho2.form
         rw [HM.out] at ho2 ⊢
         have hw2 := below_then hb2 hba.size hba
         have bx2 := bx.below hb2 bx.lt
         have q20 := bx2.d0
         have q21 := bx2.d1)
      | (go_at_call 47
         refine (implLoops A1 A2 c1 c2 N n (mkM N s) _ _ (Nat.le_refl _) (hx.keep (keeps_below hw2)) ho2.reads hN HE.out).mono ?_
         rintro e w3 ⟨A3, c3, qs, rfl, hq, hqs, hb3⟩
         have hw3 := below_then hb3 hw2.size hw2
         have bx3 := bx2.below hb3 bx2.lt
         have q30 := bx3.d0
         have q31 := bx3.d1))
  go_wp2
  go_ret
  exact ⟨A3, c3, qs, rfl, hq, hqs, hw3.mono hB⟩
theorem chg_cellB {w w' : World} {g : Nat} (h : Chg (fun z => z = g) w w') {a : Addr} {v : Value} (hc : w.cell? a = some v) (hne : a.block ≠ g) : w'.cell? a = some v := (World.cell?_of_block (h.block a.block (World.block_lt_of_cell? w _ hc) hne)).trans hc
set_option maxRecDepth 100000 in
set_option maxHeartbeats 800000 in
theorem markAllC (C : Option Addr) (g lo N m d : Nat) (ls : List Bool) (s : List Int) (w : World) (ho : OB 4 w lo (.slice (some ⟨g, 0, none⟩) N N) ls) (hl : ls.length = N) (hs : RI w C m d s) (hset : setB s (N : Int) = true) :
    Calls Tryz.prog 27 #[.slice (some ⟨g, 0, none⟩) N N, .slice C m d] w fun e w' => e = .returned (.tuple #[]) ∧ ∃ l2, OB 4 w' lo (.slice (some ⟨g, 0, none⟩) N N) l2 ∧ MkB N l2 (fun v => gb ls v = true ∨ (v : Int) ∈ s) ∧ Chg (fun z => z = g) w w' := by
  have s1 := hs.cap; have s2 := hs.top
  have HL := Lib.hid hl
  have HR := Lib.hid hs.len
  have HS := Lib.hid hset
  have H0 : Hid (MkB N ls (fun v => gb ls v = true ∨ InRow s 0 v)) := Lib.hid ⟨hl, fun v => ⟨.inl, fun h => h.elim id (fun ⟨i, hi, _⟩ => absurd hi (by omega))⟩⟩
  have c2 : N ≤ 9223372036854775807 := ho.reads.top
  clear hl hset
  go_enter Tryz.func27, Tryz.ntmps27
  go_wp2
  go_loopw [8] (fun i wr => ∃ (k : Nat) (l2 : List Bool), k ≤ m ∧ i = .int .i64 (k : Int) ∧ OB 4 wr lo (.slice (some ⟨g, 0, none⟩) N N) l2 ∧ Hid (MkB N l2 (fun v => gb ls v = true ∨ InRow s k v)) ∧ Chg (fun z => z = g) w wr) (fun i _ => m - (intOf i).toNat)
  case atStart => exact ⟨0, ls, Nat.zero_le _, rfl, ho, H0, Chg.refl _ _⟩
  case round =>
    obtain ⟨k, l2, hk, rfl, hob, HI, hc⟩ := hrel
    by_cases hlt : k < m
    · obtain ⟨u, hu, hun⟩ := set_nat HS.out (show k < s.length by rw [HR.out]; exact hlt)
      obtain ⟨bb, off, rfl, hcs⟩ := hs.at_ hlt
      rw [hu] at hcs
      have hne : bb ≠ g := ho.alone hcs (by simp)
      have hcs2 := chg_cellB hc hcs hne
      have HU := Lib.hid hu
      have hcu := hob.at_ (i := u) (by rw [HI.out.1]; exact hun)
      have hfu := hob.hot (i := u) (by rw [HI.out.1])
      have hoS := hob.set_ (i := u) (by rw [HI.out.1]) true
      have hcS : Chg (fun z => z = g) w (wr.setCell ⟨g, u, none⟩ (.bool true)) := hc.trans (Chg.set (w := wr) ⟨g, u, none⟩ (.bool true)) (fun _ h => h) (fun _ h => h)
      clear hu
      go_wp2
      go_roundw
      case rel => exact ⟨k + 1, l2.set u true, by omega, by go_num, hoS, Lib.hid (HI.out.put hun (fun v => (or_congr Iff.rfl (inRow_step (by rw [HR.out]; exact hlt) HU.out v)).trans or_assoc.symm)), hcS⟩
      case measure => simp [intOf]; omega
    · obtain rfl : k = m := by omega
      go_wp2
      go_end0
      exact ⟨rfl, l2, hob, HI.out.cong (fun v => by
        have h1 := inRow_all (p := s) (v := v)
        rw [HR.out] at h1
        rw [h1]), hc⟩
theorem metC {qs : List (List Int)} {ask : List Int} {j : Nat} : meetB (gl qs j) ask = true ↔ ∃ x, x ∈ gl qs j ∧ x ∈ ask := meet_iff
set_option maxRecDepth 100000 in
set_option maxHeartbeats 3200000 in
theorem implBreaksFrom (A0 A1 P : Option Addr) (n0 c0 n1 c1 m d : Nat) (z : List Int × List (List Int)) (ps : List PairD) (w : World) (B : Nat) (hB : B ≤ w.heap.size) (hr : RI w A0 n0 c0 z.1) (hx : RII w A1 n1 c1 z.2) (hp : RPS w P m d ps) :
    Calls Tryz.prog 8 #[.agg #[.slice A0 n0 c0, .slice A1 n1 c1], .slice P m d] w fun e w' => ∃ v, e = .returned v ∧ OI 2 w' B v (brkR z ps) ∧ Below B w w' := by
  have HL := Lib.hid hr.len
  have hba : Below w.heap.size w (w.alloc (.cells #[.slice A0 n0 c0, .slice A1 n1 c1] 30)) := below_alloc (Nat.le_refl _) (Below.refl _ _)
  have bx := Box.new w 30 #[.slice A0 n0 c0, .slice A1 n1 c1]
  have q0 := bx.d0; have q1 := bx.d1
  have p1 := hp.cap; have p2 := hp.top; have r1 := hr.cap; have r2 := hr.top
  have hall := implArenaOk A0 A1 n0 c0 n1 c1 z.1 z.2 _ _ (Nat.le_refl _) (hr.keep (keeps_below hba)) (hx.keep (keeps_below hba))
  cases h1 : arB z.1 z.2 with
  | false =>
    have E : Hid (brkR z ps = []) := Lib.hid (by unfold brkR; rw [h1]; rfl)
    rw [h1] at hall
    clear h1
    go_enter Tryz.func8, Tryz.ntmps8
    go_wp2_with fail
    refine hall.mono ?_; rintro e w1 ⟨rfl, hb1⟩
    have hw1 := below_then hb1 hba.size hba
    have hs1 := hw1.size
    clear hall q0 q1
    go_wp2
    go_ret
    exact ⟨_, rfl, by rw [E.out]; exact OI.nil _ _ _, hw1.mono hB⟩
  | true =>
    obtain ⟨⟨k1, k2, k3⟩, hE⟩ := arE h1 hr.len
    obtain rfl : n1 = n0 := by rw [← hx.len]; exact k3
    have H1 := Lib.hid h1
    rw [h1] at hall
    clear h1
    cases h2 : pairsB ps (n1 : Int) with
    | false =>
      have E : Hid (brkR z ps = []) := Lib.hid (by unfold brkR; rw [HL.out, h2, Bool.and_false]; rfl)
      have H2 := Lib.hid h2
      clear h2
      go_enter Tryz.func8, Tryz.ntmps8
      go_wp2_with fail
      refine hall.mono ?_; rintro e w1 ⟨rfl, hb1⟩
      have hw1 := below_then hb1 hba.size hba
      replace bx := bx.below hb1 bx.lt
      clear hall q0 q1
      have q0 := bx.d0; have q1 := bx.d1
      go_wp2_with fail
      refine (implSize A0 A1 n1 c0 n1 c1 _ _ (Nat.le_refl _) (by omega)).mono ?_; rintro e w2 ⟨rfl, hb2⟩
      have hw2 := below_then hb2 hw1.size hw1
      replace bx := bx.below hb2 bx.lt
      clear q0 q1
      have q0 := bx.d0; have q1 := bx.d1
      go_wp2_with fail
      refine (arePairs _ _ _ ps _ _ _ (Nat.le_refl _) (hp.keep (keeps_below hw2))).mono ?_; rintro e w3 ⟨rfl, hb3⟩
      rw [H2.out]
      have hw3 := below_then hb3 hw2.size hw2
      go_wp2
      go_ret
      exact ⟨_, rfl, by rw [E.out]; exact OI.nil _ _ _, hw3.mono hB⟩
    | true =>
      have hm : m ≤ 4 := by
        have h3 := h2
        unfold pairsB at h3
        rw [Bool.and_eq_true] at h3
        have h4 := of_decide_eq_true h3.1
        rw [hp.len] at h4; exact h4
      have HPA : Hid (∀ k, k < m → setB (gp ps k).1 (n1 : Int) = true ∧ setB (gp ps k).2 (n1 : Int) = true) := Lib.hid (fun k hk => by
        have h3 := h2
        unfold pairsB at h3
        rw [Bool.and_eq_true, List.all_eq_true] at h3
        have h4 := h3.2 _ (gp_mem (xs := ps) (i := k) (by rw [hp.len]; exact hk))
        rw [Bool.and_eq_true] at h4
        exact h4)
      have E : Hid (brkR z ps = brkL z.2 n1 ps) := Lib.hid (by unfold brkR; rw [H1.out, HL.out, h2]; rfl)
      have H2 := Lib.hid h2
      have HE := Lib.hid hE
      have HPL := Lib.hid hp.len
      clear h2 hE
      go_enter Tryz.func8, Tryz.ntmps8
      go_wp2_with fail
      refine hall.mono ?_; rintro e w1 ⟨rfl, hb1⟩
      have hw1 := below_then hb1 hba.size hba
      replace bx := bx.below hb1 bx.lt
      clear hall q0 q1
      have q0 := bx.d0; have q1 := bx.d1
      go_wp2_with fail
      refine (implSize A0 A1 n1 c0 n1 c1 _ _ (Nat.le_refl _) (by omega)).mono ?_; rintro e w2 ⟨rfl, hb2⟩
      have hw2 := below_then hb2 hw1.size hw1
      replace bx := bx.below hb2 bx.lt
      clear q0 q1
      have q0 := bx.d0; have q1 := bx.d1
      go_wp2_with fail
      refine (arePairs _ _ _ ps _ _ _ (Nat.le_refl _) (hp.keep (keeps_below hw2))).mono ?_; rintro e w3 ⟨rfl, hb3⟩
      rw [H2.out]
      have hw3 := below_then hb3 hw2.size hw2
      replace bx := bx.below hb3 bx.lt
      clear q0 q1 hb1 hw1 hb2 hw2 hb3
      have q0 := bx.d0; have q1 := bx.d1
      have hs3 := hw3.size
      go_wp2_with (refine wpList_makeB rfl (.tmp 22) rfl _ n1 rfl (by omega) ?_; intro w4 hown hb4; replace bx := bx.below hb4 bx.lt; replace hown := hown.more (lo' := w.heap.size) hs3; have hw4 := below_then hb4 hs3 hw3)
      go_loopw [26] (fun i wr => ∃ (k : Nat) (ls : List Bool), k ≤ m ∧ i = .int .i64 (k : Int) ∧ OB 4 wr w.heap.size (.slice (some ⟨w3.heap.size, 0, none⟩) n1 n1) ls ∧ Hid (MkB n1 ls (BrkG z.2 n1 ps k)) ∧ Box wr w.heap.size 30 #[.slice A0 n1 c0, .slice A1 n1 c1] ∧ Below w.heap.size w wr) (fun i _ => m - (intOf i).toNat)
      case atStart => exact ⟨0, _, Nat.zero_le _, rfl, hown, Lib.hid ⟨by simp, fun v => ⟨fun h => (by rw [gb_repF] at h; cases h), fun ⟨i, hi, _⟩ => absurd hi (by omega)⟩⟩, bx, hw4⟩
      case round =>
        clear hown hb4 bx hw4 hw3 q0 q1
        obtain ⟨k, ls, hk, rfl, ho, HI, bX, hbr⟩ := hrel
        obtain ⟨wo, rfl⟩ : ∃ wo : World, wo = wr := ⟨_, rfl⟩
        by_cases hlt : k < m
        · obtain ⟨bp, op, Aa, na, ca, Ag, ng, cg, rfl, hca0, hcg0, hra0, hrg0⟩ := hp.at_ hlt
          have hca := keeps_below hbr _ _ hca0
          have hcg := keeps_below hbr _ _ hcg0
          have bP := Box.new wo 50 #[.slice Aa na ca, .slice Ag ng cg]
          have bX1 := bX.alloc (.cells #[.slice Aa na ca, .slice Ag ng cg] 50)
          have hb1 : Below wo.heap.size wo (wo.alloc (.cells #[.slice Aa na ca, .slice Ag ng cg] 50)) := below_alloc (Nat.le_refl _) (Below.refl _ _)
          have hw1 := below_then hb1 hbr.size hbr
          have q0 := bX1.d0; have q1 := bX1.d1; have q2 := bP.d0; have q3 := bP.d1
          have t1 := hra0.cap; have t2 := hra0.top; have t3 := hrg0.cap; have t4 := hrg0.top
          have HSA := Lib.hid (HPA.out k hlt).1
          have HSG := Lib.hid (HPA.out k hlt).2
          have hng : ng ≤ 1048576 := by have := set_len HSG.out (Int.natCast_nonneg _); rw [hrg0.len] at this; omega
          have hna : na ≤ 1048576 := by have := set_len HSA.out (Int.natCast_nonneg _); rw [hra0.len] at this; omega
          go_wp2_with fail
          go_region_held3 (fun w' => w'.cell? ⟨w.heap.size, 0, none⟩ = some (.slice A0 n1 c0) ∧ w'.cell? ⟨w.heap.size, 1, none⟩ = some (.slice A1 n1 c1) ∧ w'.cell? ⟨wo.heap.size, 0, none⟩ = some (.slice Aa na ca) ∧ w'.cell? ⟨wo.heap.size, 1, none⟩ = some (.slice Ag ng cg))
            (refine ⟨?_, ?_, ?_, ?_⟩ <;> repeat (first | with_reducible assumption | with_reducible refine keepD ?_ | with_reducible refine keepA ?_))
            (first
              | (go_at_call 25
                 refine (allOf A0 A1 n1 c0 n1 c1 _ _ (Nat.le_refl _) k2).mono ?_
                 rintro e w5 ⟨v5, rfl, ho5, hb5⟩
                 replace hb5 := below_undrew hb5
                 obtain ⟨A5, c5, rfl⟩ := ho5.form
                 rw [allL_len] at ho5 ⊢
                 have hw5 := below_then hb5 hw1.size hw1
                 have bX5 := bX1.below hb5 bX1.lt
                 have bP5 := bP.below hb5 bP.lt
                 have ob5 := (ho.below hb1).below hb5
                 have q50 := bX5.d0
                 have q51 := bX5.d1
                 have q52 := bP5.d0
                 have q53 := bP5.d1)
              | (go_at_call 24
                 refine (lessOf A5 Ag n1 c5 ng cg (allL n1) (gp ps k).2 _ _ (Nat.le_refl _) ho5.reads (hrg0.keep (keeps_below hw5)) (rises_set HSG.out) (by omega) hng).mono ?_
                 rintro e w6 ⟨v6, rfl, ho6, hb6⟩
                 obtain ⟨A6, c6, rfl⟩ := ho6.form
                 have hw6 := below_then hb6 hw5.size hw5
                 have bX6 := bX5.below hb6 bX5.lt
                 have bP6 := bP5.below hb6 bP5.lt
                 have ob6 := ob5.below hb6
                 have q60 := bX6.d0
                 have q61 := bX6.d1
                 have q62 := bP6.d0
                 have q63 := bP6.d1)
              | (go_at_call 23
                 refine (loopsOf A0 A1 A6 c0 c1 _ c6 n1 z.2 (lessL (allL n1) (gp ps k).2) _ _ (Nat.le_refl _) (hx.keep (keeps_below hw6)) ho6.reads (less_setB (allL_set n1) _) k2 HE.out).mono ?_
                 rintro e w7 ⟨Aq, cq, qs, rfl, hq, hqs, hb7⟩
                 have hw7 := below_then hb7 hw6.size hw6
                 have bX7 := bX6.below hb7 bX6.lt
                 have bP7 := bP6.below hb7 bP6.lt
                 have ob7 := ob6.below hb7
                 have q70 := bX7.d0
                 have q71 := bX7.d1
                 have q72 := bP7.d0
                 have q73 := bP7.d1))
          rw [marks_inside] at hqs
          have HQS := Lib.hid hqs
          have r3 := hq.cap; have r4 := hq.top
          have H3 : Hid (MkB n1 ls (fun v => BrkG z.2 n1 ps k v ∨ MetG qs (gp ps k).1 0 v)) := Lib.hid (HI.out.cong (fun v => ⟨fun h => h.elim id (fun ⟨i, hi, _⟩ => absurd hi (by omega)), .inl⟩))
          have hk7 := Kp.refl w7
          clear hqs HI ho bX hbr hca hcg hcg0 hrg0 bP bX1 hb1 hw1 q0 q1 q2 q3 ho5 hb5 hw5 bX5 bP5 ob5 q50 q51 q52 q53 ho6 hb6 hw6 bX6 bP6 ob6 q60 q61 q62 q63 hb7
          go_wp2
          go_loopw [38] (fun i wi => ∃ (j : Nat) (l2 : List Bool), j ≤ qs.length ∧ i = .int .i64 (j : Int) ∧ OB 4 wi w.heap.size (.slice (some ⟨w3.heap.size, 0, none⟩) n1 n1) l2 ∧ Hid (MkB n1 l2 (fun v => BrkG z.2 n1 ps k v ∨ MetG qs (gp ps k).1 j v)) ∧ Kp w7 wi ∧ Box wi w.heap.size 30 #[.slice A0 n1 c0, .slice A1 n1 c1] ∧ Box wi wo.heap.size 50 #[.slice Aa na ca, .slice Ag ng cg] ∧ Below w.heap.size w wi) (fun i _ => qs.length - (intOf i).toNat)
          case atStart => exact ⟨0, ls, Nat.zero_le _, rfl, ob7, H3, hk7, bX7, bP7, hw7⟩
          case round =>
            clear ob7 H3 hk7 bX7 bP7 hw7 q70 q71 q72 q73
            obtain ⟨j, l2, hj, rfl, ho, HI, hkp, bX, bP, hbr⟩ := hrel
            have q2 := bP.d0
            by_cases hjl : j < qs.length
            · obtain ⟨bq, oq, Ap, np, cp, rfl, hcq0, hrq0⟩ := hq.at_ hjl
              have hcq := hkp _ _ hcq0 (by simp)
              have hrq := hrq0.kp hkp
              have hra := hra0.keep (keeps_below hbr)
              have t5 := hrq0.cap; have t6 := hrq0.top
              have HPS : Hid (setB (gl qs j) (n1 : Int) = true) := Lib.hid (HQS.out.2.1 _ (by
                have h1 : gl qs j = qs[j] := by simp [gl, hjl]
                rw [h1]; exact List.getElem_mem hjl))
              have hnp : np ≤ 1048576 := by have := set_len HPS.out (Int.natCast_nonneg _); rw [hrq0.len] at this; omega
              have hcall := meets Ap Aa np cp na ca (gl qs j) (gp ps k).1 wr _ (Nat.le_refl _) hrq hra (rises_set HSA.out) hnp hna
              cases hmt : meetB (gl qs j) (gp ps k).1 with
              | false =>
                rw [hmt] at hcall
                have HX : Hid (¬ ∃ x, x ∈ gl qs j ∧ x ∈ (gp ps k).1) := Lib.hid (fun h => by rw [metC.2 h] at hmt; cases hmt)
                clear hmt
                go_wp2_with fail
                refine hcall.mono ?_; rintro e w8 ⟨rfl, hb8⟩
                have ho8 := ho.below hb8
                have bX8 := bX.below hb8 bX.lt
                have bP8 := bP.below hb8 bP.lt
                have hw8 := below_then hb8 hbr.size hbr
                have hk8 := hkp.then (Kp.of hb8 (Nat.le_refl _))
                clear hcall
                go_wp2
                go_roundw
                case rel => exact ⟨j + 1, l2, by omega, by go_num, ho8, Lib.hid (HI.out.cong (fun v => or_congr Iff.rfl (metG_no HX.out))), hk8, bX8, bP8, hw8⟩
                case measure => simp [intOf]; omega
              | true =>
                rw [hmt] at hcall
                have HX := Lib.hid (metC.1 hmt)
                clear hmt
                go_wp2_with fail
                refine hcall.mono ?_; rintro e w8 ⟨rfl, hb8⟩
                have ho8 := ho.below hb8
                have bX8 := bX.below hb8 bX.lt
                have bP8 := bP.below hb8 bP.lt
                have hw8 := below_then hb8 hbr.size hbr
                have hk8 := hkp.then (Kp.of hb8 (Nat.le_refl _))
                have hml := markAllC Ap w3.heap.size w.heap.size n1 np cp l2 (gl qs j) w8 ho8 HI.out.1 (hrq0.kp hk8) HPS.out
                clear hcall
                go_wp2_with fail
                refine hml.mono ?_; rintro e w9 ⟨rfl, l9, ho9, hm9, hc9⟩
                have HM9 := Lib.hid hm9
                have bx9 : ∀ {b : Nat} {t : TypeId} {xs : Array Value}, Box w8 b t xs → 4 ≠ t → Box w9 b t xs := fun hb hne => (hc9.block _ hb.lt (fun e => row_nbox ho8 hb hne (by rw [e]; rfl))).trans hb
                have bX9 := bx9 bX8 (by decide)
                have bP9 := bx9 bP8 (by decide)
                have hw9 : Below w.heap.size w w9 := hw8.trans (hc9.below hw8.size (fun x e => by rw [e]; exact hs3))
                have hk9 : Kp w7 w9 := hk8.then (fun a v h1 h2 => chg_cellB hc9 h1 (ho8.alone h1 h2))
                clear hml hm9
                go_wp2
                go_roundw
                case rel => exact ⟨j + 1, l9, by omega, by go_num, ho9, Lib.hid (HM9.out.cong (fun v => by rw [metG_yes HX.out, ← or_assoc, HI.out.2 v])), hk9, bX9, bP9, hw9⟩
                case measure => simp [intOf]; omega
            · obtain rfl : j = qs.length := by omega
              go_wp2
              exact ⟨⟨k + 1, l2, by omega, by go_num, ho, Lib.hid (HI.out.cong (fun v => metG_all HQS.out.1 v)), bX, hbr⟩, by simp [intOf]; omega⟩
        · obtain rfl : k = m := by omega
          have q0 := bX.d0; have q1 := bX.d1
          have hld := leadTo A0 A1 (some ⟨w3.heap.size, 0, none⟩) n1 c0 n1 c1 n1 n1 z.2 ls wo _ (Nat.le_refl _) (hx.keep (keeps_below hbr)) ho.reads rfl rfl k1 k2 HE.out
          have hs4 := hbr.size
          go_wp2_with fail
          refine hld.mono ?_; rintro e w5 ⟨g5, c5, out5, rfl, ho5, hq5, hb5⟩
          have hli := listOf (some ⟨g5, 0, none⟩) n1 c5 out5 w5 _ (Nat.le_refl _) ho5.reads (by omega)
          have hw5 := below_then hb5 hs4 hbr
          go_wp2_with fail
          refine hli.mono ?_; rintro e w6 ⟨v6, rfl, ho6, hb6⟩
          have e5 : listM out5 = brkL z.2 n1 ps := by
            unfold brkL
            rw [HPL.out]
            exact list_brk hq5.1 (fun v _ => (hq5.2 v).trans (comes_cong (fun u => HI.out.2 u) v))
          have hw6 := below_then hb6 hw5.size hw5
          clear hld hli
          go_wp2
          go_ret
          exact ⟨_, rfl, by rw [E.out, ← e5]; exact ho6.more (Nat.le_trans hB hw5.size), hw6.mono hB⟩
end Go.Proofs.YtjjaolndencplaaGreat
namespace Go.Proofs.YtjjaolndencplaaGreat
open Go.RowKit

/-- edges between the vertices of a set -/
def WX (n : List (List Int)) (X : Nat → Prop) (x y : Nat) : Prop := X x ∧ X y ∧ (y : Int) ∈ gl n x
/-- a set that a path may run through for ever; if it has one of Ask, then one of Give -/
structure GoodX (n : List (List Int)) (ps : List PairD) (X : Nat → Prop) : Prop where
  way : ∀ x y, X x → X y → Way (WX n X) x y
  met : ∀ k, k < ps.length → (∃ x : Nat, X x ∧ (x : Int) ∈ (gp ps k).1) → ∃ x : Nat, X x ∧ (x : Int) ∈ (gp ps k).2
def WellG (n : List (List Int)) (ps : List PairD) (S : Nat → Prop) (v : Nat) : Prop := ∃ X : Nat → Prop, X v ∧ (∀ x, X x → S x) ∧ GoodX n ps X
/-- what is left of a part when the broken pairs' Ask is taken away -/
def RestS (ps : List PairD) (p : List Int) (u : Nat) : Prop := (u : Int) ∈ p ∧ ∀ k : Nat, (k : Int) ∈ brokenL ps p → (u : Int) ∉ (gp ps k).1
def WelJ (n : List (List Int)) (ps : List PairD) (qs : List (List Int)) (j v : Nat) : Prop := ∃ i, i < j ∧ (v : Int) ∈ gl qs i ∧ (brokenL ps (gl qs i) = [] ∨ WellG n ps (RestS ps (gl qs i)) v)
section
variable {n : List (List Int)} {ps : List PairD} {ins : List Bool} {qs : List (List Int)} {p : List Int} {S T : Nat → Prop} {v j N : Nat}
theorem WellG.mono (h : WellG n ps S v) (k : ∀ x, S x → T x) : WellG n ps T v := by
  obtain ⟨X, h1, h2, h3⟩ := h
  exact ⟨X, h1, fun x hx => k x (h2 x hx), h3⟩
theorem WellG.cong (k : ∀ x, S x ↔ T x) : WellG n ps S v ↔ WellG n ps T v := ⟨fun h => h.mono fun x => (k x).1, fun h => h.mono fun x => (k x).2⟩
theorem WellG.mem (h : WellG n ps S v) : S v := by
  obtain ⟨X, h1, h2, _⟩ := h
  exact h2 v h1
theorem mem_broken {k : Nat} : (k : Int) ∈ brokenL ps p ↔ k < ps.length ∧ meetB (gp ps k).1 p = true ∧ meetB (gp ps k).2 p = false := by
  unfold brokenL brokenUp
  rw [mem_pick]
  unfold brokenAt
  constructor
  · rintro ⟨i, hi, h, e⟩
    obtain rfl : i = k := by omega
    rw [Bool.and_eq_true, Bool.not_eq_true'] at h
    exact ⟨hi, h.1, h.2⟩
  · rintro ⟨hi, h1, h2⟩
    exact ⟨k, hi, by rw [h1, h2]; rfl, rfl⟩
theorem broken_nat {x : Int} (h : x ∈ brokenL ps p) : ∃ k : Nat, x = (k : Int) ∧ k < ps.length := by
  unfold brokenL brokenUp at h
  rw [mem_pick] at h
  obtain ⟨i, hi, _, e⟩ := h
  exact ⟨i, e.symm, hi⟩
/-- within what lies both ways, a way need not leave it -/
theorem both_way {R : Nat → Nat → Prop} {c x y : Nat} (hx : Both R c x) (hy : Both R c y) : Way (fun a b => Both R c a ∧ Both R c b ∧ R a b) x y := by
  have hyx : Way R y x := hy.2.trans hx.1
  have hxy : Way R x y := hx.2.trans hy.1
  have key : ∀ z, Way R x z ∧ (Way R z y → Way (fun a b => Both R c a ∧ Both R c b ∧ R a b) x z) → True := fun _ _ => trivial
  have h := hxy (fun z => Way R x z ∧ (Way R z y → Both R c z ∧ Way (fun a b => Both R c a ∧ Both R c b ∧ R a b) x z))
    (fun z hz => ⟨.one hz, fun k => by
      have hb : Both R c z := ⟨hx.1.step hz, k.trans hy.2⟩
      exact ⟨hb, .one ⟨hx, hb, hz⟩⟩⟩)
    (fun z z' hz hr => ⟨hz.1.step hr, fun k => by
      obtain ⟨h1, h2⟩ := hz.2 (.head hr k)
      have hb : Both R c z' := ⟨h1.1.step hr, k.trans hy.2⟩
      exact ⟨hb, h2.step ⟨h1, hb, hr⟩⟩⟩)
  exact (h.2 (hyx.trans hxy)).2
theorem way_in {u : Nat} (h : Way (RW n ins) v u) : gb ins u = true := by
  obtain ⟨x, hx⟩ := h.last
  exact hx.2.1
theorem part_ins (hq : isParts (RW n ins) qs) (hp : p ∈ qs) {u : Nat} (hu : (u : Int) ∈ p) : gb ins u = true := by
  obtain ⟨c, hc, hall⟩ := hq.1 p hp
  obtain ⟨a, e, h⟩ := (hall _).1 hu
  obtain rfl : u = a := by omega
  exact way_in h.1
theorem well_part (hq : isParts (RW n ins) qs) (hp : p ∈ qs) (hb : brokenL ps p = []) (hv : (v : Int) ∈ p) : WellG n ps (fun u => gb ins u = true) v := by
  obtain ⟨c, hc, hall⟩ := hq.1 p hp
  have mem : ∀ u : Nat, (u : Int) ∈ p ↔ Both (RW n ins) c u := fun u => by
    rw [hall]
    exact ⟨fun ⟨a, e, h⟩ => by obtain rfl : u = a := by omega
                               exact h, fun h => ⟨u, rfl, h⟩⟩
  refine ⟨fun u => (u : Int) ∈ p, hv, fun x hx => part_ins hq hp hx, ⟨fun x y hx hy => ?_, fun k hk hx => ?_⟩⟩
  · exact (both_way ((mem x).1 hx) ((mem y).1 hy)).mono fun a b h => ⟨(mem a).2 h.1, (mem b).2 h.2.1, h.2.2.2.2⟩
  · refine Classical.byContradiction fun hno => ?_
    have h1 : meetB (gp ps k).1 p = true := by
      obtain ⟨x, h1, h2⟩ := hx
      exact meet_iff.2 ⟨x, h2, h1⟩
    have h2 : meetB (gp ps k).2 p = false := by
      cases hm : meetB (gp ps k).2 p with
      | false => rfl
      | true =>
        obtain ⟨x, h3, h4⟩ := meet_iff.1 hm
        obtain ⟨a, rfl, _⟩ := (hall x).1 h4
        exact absurd ⟨a, h4, h3⟩ hno
    have h3 := mem_broken.2 ⟨hk, h1, h2⟩
    rw [hb] at h3
    cases h3
theorem well_rest (hq : isParts (RW n ins) qs) (hp : p ∈ qs) (h : WellG n ps (RestS ps p) v) : WellG n ps (fun u => gb ins u = true) v := h.mono fun _ hx => part_ins hq hp hx.1
theorem well_step (hq : isParts (RW n ins) qs) (h : WellG n ps (fun u => gb ins u = true) v) : ∃ p, p ∈ qs ∧ (v : Int) ∈ p ∧ WellG n ps (RestS ps p) v := by
  obtain ⟨X, h1, h2, h3⟩ := h
  have sub : ∀ x y, X x → X y → Way (RW n ins) x y := fun x y hx hy => (h3.way x y hx hy).mono fun a b k => ⟨h2 a k.1, h2 b k.2.1, k.2.2⟩
  obtain ⟨p, hp, hv⟩ := hq.2 v ⟨sub v v h1 h1, sub v v h1 h1⟩
  obtain ⟨c, hc, hall⟩ := hq.1 p hp
  obtain ⟨a, e, hcv⟩ := (hall _).1 hv
  obtain rfl : v = a := by omega
  have inp : ∀ x, X x → (x : Int) ∈ p := fun x hx => (hall _).2 ⟨x, rfl, hcv.trans ⟨sub v x h1 hx, sub x v hx h1⟩⟩
  refine ⟨p, hp, hv, X, h1, fun x hx => ⟨inp x hx, fun k hk hask => ?_⟩, h3⟩
  obtain ⟨hkl, _, hg⟩ := mem_broken.1 hk
  obtain ⟨y, hy, hyg⟩ := h3.met k hkl ⟨x, hx, hask⟩
  rw [meet_iff.2 ⟨y, hyg, inp y hy⟩] at hg
  cases hg
theorem wel_all (hq : isParts (RW n ins) qs) : WelJ n ps qs qs.length v ↔ WellG n ps (fun u => gb ins u = true) v := by
  constructor
  · rintro ⟨i, hi, hv, h⟩
    have hp : gl qs i ∈ qs := by
      have h1 : gl qs i = qs[i] := by simp [gl, hi]
      rw [h1]; exact List.getElem_mem hi
    rcases h with h | h
    · exact well_part hq hp h hv
    · exact well_rest hq hp h
  · intro h
    obtain ⟨p, hp, hv, k⟩ := well_step hq h
    obtain ⟨i, hi, rfl⟩ := List.getElem_of_mem hp
    have h1 : gl qs i = qs[i] := by simp [gl, hi]
    exact ⟨i, hi, by rw [h1]; exact hv, .inr (by rw [h1]; exact k)⟩
theorem welJ_fine (h : brokenL ps (gl qs j) = []) : WelJ n ps qs (j + 1) v ↔ WelJ n ps qs j v ∨ (v : Int) ∈ gl qs j := by
  unfold WelJ
  constructor
  · rintro ⟨i, hi, hv, hx⟩
    by_cases e : i = j
    · subst e; exact .inr hv
    · exact .inl ⟨i, by omega, hv, hx⟩
  · rintro (⟨i, hi, hv, hx⟩ | hv)
    · exact ⟨i, by omega, hv, hx⟩
    · exact ⟨j, by omega, hv, .inl h⟩
theorem welJ_rest (h : brokenL ps (gl qs j) ≠ []) : WelJ n ps qs (j + 1) v ↔ WelJ n ps qs j v ∨ WellG n ps (RestS ps (gl qs j)) v := by
  unfold WelJ
  constructor
  · rintro ⟨i, hi, hv, hx⟩
    by_cases e : i = j
    · subst e; exact .inr (hx.resolve_left h)
    · exact .inl ⟨i, by omega, hv, hx⟩
  · rintro (⟨i, hi, hv, hx⟩ | hv)
    · exact ⟨i, by omega, hv, hx⟩
    · exact ⟨j, by omega, hv.mem.1, .inr hv⟩
/-- fewer marks -/
theorem cntF_lt {a b : List Bool} (hl : a.length = b.length) (h : ∀ i, gb b i = true → gb a i = true) (u : Nat) (h1 : gb a u = true) (h2 : gb b u = false) : cntF a < cntF b := by
  induction a generalizing b u with
  | nil => simp [gb] at h1
  | cons x a ih =>
    cases b with
    | nil => simp at hl
    | cons y b =>
      have hs : ∀ i, gb b i = true → gb a i = true := fun i hi => h (i + 1) hi
      have h0 := h 0
      have hle : cntF a ≤ cntF b := by
        by_cases hex : ∃ u, gb a u = true ∧ gb b u = false
        · obtain ⟨t, k1, k2⟩ := hex
          exact Nat.le_of_lt (ih (by simpa using hl) hs t k1 k2)
        · have : a = b := gb_ext (by simpa using hl) fun i _ => by
            cases k1 : gb a i with
            | true => cases k2 : gb b i with
              | true => rfl
              | false => exact absurd ⟨i, k1, k2⟩ hex
            | false => cases k2 : gb b i with
              | false => rfl
              | true => rw [hs i k2] at k1; cases k1
          rw [this]; exact Nat.le_refl _
      unfold cntF at hle ih ⊢
      rw [List.countP_cons, List.countP_cons]
      cases u with
      | zero =>
        have h1' : x = true := h1
        have h2' : y = false := h2
        subst h1' h2'
        simp at hle ⊢; omega
      | succ u =>
        have := ih (by simpa using hl) hs u h1 h2
        have h0' : y = true → x = true := h0
        cases x <;> cases y
        · exact Nat.add_lt_add_right this _
        · exact absurd (h0' rfl) (by decide)
        · simp at this ⊢; omega
        · exact Nat.add_lt_add_right this _
/-- a part from which something is taken has fewer marks than what it is a part of -/
theorem rest_lt {inner : List Bool} (hq : isParts (RW n ins) qs) (hp : p ∈ qs) (hi : inner.length = ins.length) (hm : ∀ u, gb inner u = true ↔ RestS ps p u) (hb : brokenL ps p ≠ []) : cntF ins < cntF inner := by
  obtain ⟨k, hk⟩ : ∃ k, k ∈ brokenL ps p := List.exists_mem_of_ne_nil _ hb
  obtain ⟨k, rfl, hkl⟩ := broken_nat hk
  obtain ⟨x, hx, hxp⟩ := meet_iff.1 (mem_broken.1 hk).2.1
  obtain ⟨c, hc, hall⟩ := hq.1 p hp
  obtain ⟨u, rfl, hu⟩ := (hall _).1 hxp
  refine cntF_lt hi.symm (fun i h => part_ins hq hp ((hm i).1 h).1) u (way_in hu.1) ?_
  cases h : gb inner u with
  | false => rfl
  | true => exact absurd hx (((hm u).1 h).2 k hk)
end
/-- a part without the Ask of the first i broken pairs -/
def leftL (ps : List PairD) (p : List Int) : Nat → List Int
  | 0 => p
  | i + 1 => lessL (leftL ps p i) (gp ps (gi (brokenL ps p) i).toNat).1
section
variable {ps : List PairD} {p : List Int} {N : Nat}
theorem leftL_set (h : setB p (N : Int) = true) : ∀ i, setB (leftL ps p i) (N : Int) = true
  | 0 => h
  | i + 1 => less_setB (leftL_set h i) _
theorem leftL_mem {x : Int} : ∀ i, x ∈ leftL ps p i ↔ x ∈ p ∧ ∀ t, t < i → x ∉ (gp ps (gi (brokenL ps p) t).toNat).1
  | 0 => by simp [leftL]
  | i + 1 => by
    rw [leftL, less_memB, leftL_mem i]
    constructor
    · rintro ⟨⟨h1, h2⟩, h3⟩
      refine ⟨h1, fun t ht => ?_⟩
      by_cases e : t = i
      · subst e; exact h3
      · exact h2 t (by omega)
    · rintro ⟨h1, h2⟩
      exact ⟨⟨h1, fun t ht => h2 t (by omega)⟩, h2 i (by omega)⟩
theorem leftL_all {u : Nat} : (u : Int) ∈ leftL ps p (brokenL ps p).length ↔ RestS ps p u := by
  rw [leftL_mem]
  unfold RestS
  refine and_congr Iff.rfl ⟨fun h k hk => ?_, fun h t ht => ?_⟩
  · obtain ⟨t, ht, e⟩ := mem_gi hk
    have h1 := h t ht
    rw [e] at h1
    simpa using h1
  · obtain ⟨k, e, _⟩ := broken_nat (gi_mem ht)
    have h1 := h k (by rw [← e]; exact gi_mem ht)
    rw [e]
    simpa using h1
theorem less_le (a b : List Int) : (lessL a b).length ≤ a.length := pick_len _ _ _
theorem leftL_len : ∀ i, (leftL ps p i).length ≤ p.length
  | 0 => Nat.le_refl _
  | i + 1 => Nat.le_trans (less_le _ _) (leftL_len i)
theorem leftL_lt (hb : brokenL ps p ≠ []) : (leftL ps p (brokenL ps p).length).length < p.length := by
  have h0 : 0 < (brokenL ps p).length := by
    cases h : brokenL ps p with
    | nil => exact absurd h hb
    | cons a t => simp
  have h1 : (leftL ps p 1).length < p.length := by
    have hm := gi_mem h0
    obtain ⟨k, e, _⟩ := broken_nat hm
    rw [e] at hm
    have h2 := (mem_broken.1 hm).2.1
    rw [meetB_comm] at h2
    have h3 := lessL_meet p (gp ps k).1
    rw [h2] at h3
    show (lessL p (gp ps (gi (brokenL ps p) 0).toNat).1).length < p.length
    rw [e]
    simpa using h3
  have h2 : ∀ i, (leftL ps p (i + 1)).length < p.length := fun i => by
    induction i with
    | zero => exact h1
    | succ i ih => exact Nat.lt_of_le_of_lt (less_le _ _) ih
  obtain ⟨i, e⟩ : ∃ i, (brokenL ps p).length = i + 1 := ⟨_, (Nat.succ_pred_eq_of_pos h0).symm⟩
  rw [e]
  exact h2 i
theorem leftL_eq (hb : brokenL ps p = []) : leftL ps p (brokenL ps p).length = p := by rw [hb]; rfl
end
noncomputable def welL (n : List (List Int)) (N : Nat) (ps : List PairD) : List Int := pick (fun v => clB (Comes n (WellG n ps (fun u => u < N)) v)) (fun v => (v : Int)) N
noncomputable def welR (z : List Int × List (List Int)) (ps : List PairD) : List Int := if (arB z.1 z.2 && pairsB ps (z.1.length : Int)) = true then welL z.2 z.1.length ps else []
end Go.Proofs.YtjjaolndencplaaGreat
namespace Go.Proofs.YtjjaolndencplaaGreat
open Go.RowKit

/-! ### ascending lists -/
end Go.Proofs.YtjjaolndencplaaGreat
namespace Go.Proofs.YtjjaolndencplaaGreat
open Go.RowKit

theorem Box.b0 {w : World} {b : Nat} {t : TypeId} {x0 : Value} (h : Box w b t #[x0]) : w.cell? ⟨b, 0, none⟩ = some x0 := h.cell 0
end Go.Proofs.YtjjaolndencplaaGreat
namespace Go.Proofs.YtjjaolndencplaaGreat
open Go.RowKit

end Go.Proofs.YtjjaolndencplaaGreat
namespace Go.Proofs.YtjjaolndencplaaGreat
open Go.RowKit

theorem OPS.part {w w' : World} {lo : Nat} {v : Value} {ps : List PairD} (h : OPS w lo v ps) (hb : Below w.heap.size w w') : Chg (fun b => b < lo) w w' := (Chg.refl _ _).then_below hb (Nat.le_refl _)

end Go.Proofs.YtjjaolndencplaaGreat
namespace Go.Proofs.YtjjaolndencplaaGreat
open Go.RowKit

theorem OPS.ne {w : World} {lo lo' : Nat} {v u : Value} {ps : List PairD} {xs : List Int} (h : OPS w lo v ps) (k : OI 2 w lo' u xs) : ∀ b, u.ownBlock = some b → v.ownBlock ≠ some b := by
  obtain ⟨cs, h1, _, _⟩ := h
  exact own_ne k h1 (by decide)
end Go.Proofs.YtjjaolndencplaaGreat
namespace Go.Proofs.YtjjaolndencplaaGreat
open Go.RowKit

end Go.Proofs.YtjjaolndencplaaGreat
namespace Go.Proofs.YtjjaolndencplaaGreat
open Go.RowKit

theorem itrL_gi {f : Nat → Nat} {v a len i : Nat} (h : i < len) : gi (itrL f v a len) i = (itr f v (a + i) : Int) := by
  rw [gi_get (by rw [itrL_len]; exact h)]
  simp [itrL]
theorem play_all {f : Nat → Nat} {v : Nat} {st lp : List Int} (h : isPlay f v st lp) : 1 ≤ lp.length ∧ ∀ i, i < (lasAll (st, lp)).length → gi (lasAll (st, lp)) i = (itr f v i : Int) := by
  obtain ⟨k, t, h1, rfl, rfl, h2⟩ := h
  refine ⟨by rw [itrL_len]; omega, fun i hi => ?_⟩
  unfold lasAll at hi ⊢
  dsimp only at hi ⊢
  simp only [List.length_append, itrL_len, List.length_singleton] at hi
  by_cases e : i < t
  · rw [gi_app_l (by simp only [List.length_append, itrL_len]; omega)]
    by_cases e2 : i < k
    · rw [gi_app_l (by rw [itrL_len]; exact e2), itrL_gi e2]; simp
    · have e3 : gi (itrL f v 0 k ++ itrL f v k (t - k)) i = gi (itrL f v k (t - k)) (i - k) := by
        unfold gi
        simp only [List.getD_eq_getElem?_getD]
        rw [List.getElem?_append_right (by rw [itrL_len]; omega), itrL_len]
      rw [e3, itrL_gi (by omega), show k + (i - k) = i by omega]
  · obtain rfl : i = t := by omega
    rw [gi_app_r (by simp only [List.length_append, itrL_len]; omega)]
    show gi (itrL f v k (i - k)) 0 = _
    rw [itrL_gi (by omega), Nat.add_zero, h2]
theorem play_lasso {o : List Int} {n : List (List Int)} {pe pd st lp : List Int} {v : Nat} (hstep : ∀ x, x < o.length → nxN o pe pd x < o.length ∧ hasL (gl n x) (nxN o pe pd x : Int) = true) (hv : v < o.length) (h : isPlay (nxN o pe pd) v st lp) (hl : st.length ≤ 256 ∧ lp.length ≤ 256) : lasE o n (st, lp) = true := by
  obtain ⟨h1, h2⟩ := play_all h
  have hin : ∀ i, itr (nxN o pe pd) v i < o.length := fun i => by
    induction i with
    | zero => exact hv
    | succ i ih => exact (hstep _ ih).1
  refine lasE_yes ⟨hl.1, h1, hl.2⟩ fun i hi => ?_
  unfold lasAt
  rw [h2 i hi]
  refine ⟨⟨by omega, by have := hin i; omega⟩, fun h0 => ?_⟩
  rw [h2 (i - 1) (by omega)]
  obtain ⟨j, rfl⟩ : ∃ j, i = j + 1 := ⟨i - 1, by omega⟩
  exact (hstep _ (hin j)).2
theorem full_step {o : List Int} {n : List (List Int)} {pe pd : List Int} (hf : fineAr o n) (he : fullP o n 0 pe) (hd : fullP o n 1 pd) : ∀ x, x < o.length → nxN o pe pd x < o.length ∧ hasL (gl n x) (nxN o pe pd x : Int) = true := fun x hx => by
  have hr := hf.2.2.2 x hx
  have h3 : ∀ y, hasL (gl n x) y = true → y.toNat < o.length ∧ ((y.toNat : Nat) : Int) = y := fun y hy => by
    have := set_mem hr.2.2 (of_decide_eq_true hy)
    omega
  unfold nxN
  by_cases e : gi o x = 0
  · have h4 := ((he.2 x hx).1 e)
    rw [if_pos e]
    obtain ⟨h5, h6⟩ := h3 _ h4
    exact ⟨h5, by rw [h6]; exact h4⟩
  · have h4 := ((hd.2 x hx).1 (by omega))
    rw [if_neg e]
    obtain ⟨h5, h6⟩ := h3 _ h4
    exact ⟨h5, by rw [h6]; exact h4⟩
end Go.Proofs.YtjjaolndencplaaGreat
namespace Go.Proofs.YtjjaolndencplaaGreat
open Go.RowKit

/-- a row's block is no box of another type -/
theorem rowBox {E t : TypeId} {w : World} {lo size n b : Nat} {v : Value} {cs : List Value} {xs : Array Value} (h : w.ownsRow lo E size v n cs) (hb : Box w b t xs) (hne : E ≠ t) : v.ownBlock ≠ some b := by
  intro hv
  rcases h.2 with ⟨rfl, _⟩ | ⟨g, cap, cur, rfl, _, h3, _⟩
  · simp [Value.ownBlock] at hv
  · simp [Value.ownBlock] at hv
    subst hv
    unfold Box at hb
    rw [hb] at h3
    injection h3 with h3
    injection h3 with _ e
    exact hne e.symm
theorem OI.chgBox {w w' : World} {lo b : Nat} {t : TypeId} {xs : Array Value} {v : Value} {l : List Int} (h : OI 2 w lo v l) (hb : Box w b t xs) (h1 : 2 ≠ t) (hc : Chg (fun x => x = b) w w') : OI 2 w' lo v l :=
  h.chg hc fun z hz e => rowBox h hb h1 (by have e' : z = b := e; rw [hz, e'])
theorem OArn.chgBox {w w' : World} {lo b : Nat} {t : TypeId} {xs : Array Value} {s0 s1 : Value} {z : ArD} (h : OArn w lo s0 s1 z) (hb : Box w b t xs) (h1 : 2 ≠ t) (h2 : 27 ≠ t) (hc : Chg (fun x => x = b) w w') : OArn w' lo s0 s1 z := by
  obtain ⟨cs, ⟨k0, k1, k2⟩, k4⟩ := h
  exact ⟨cs, ⟨k0.chgBox hb h1 hc, row_chg k1 hc (fun z hz e => rowBox k1 hb h2 (by have e' : z = b := e; rw [hz, e'])), fun i hi => (k2 i hi).chgBox hb h1 hc⟩, k4⟩
theorem OPS.chgBox {w w' : World} {lo b : Nat} {t : TypeId} {xs : Array Value} {v : Value} {ps : List PairD} (h : OPS w lo v ps) (hb : Box w b t xs) (h1 : 2 ≠ t) (h2 : 50 ≠ t) (hc : Chg (fun x => x = b) w w') : OPS w' lo v ps := by
  obtain ⟨cs, k1, k2, k4⟩ := h
  exact ⟨cs, row_chg k1 hc (fun z hz e => rowBox k1 hb h2 (by have e' : z = b := e; rw [hz, e'])), fun i hi => (k2 i hi).chgBox hb h1 hc, k4⟩
end Go.Proofs.YtjjaolndencplaaGreat
namespace Go.Proofs.YtjjaolndencplaaGreat
open Go.RowKit

end Go.Proofs.YtjjaolndencplaaGreat
namespace Go.Proofs.YtjjaolndencplaaGreat
open Go.RowKit

theorem pigeons : ∀ (N : Nat) (g : Nat → Nat), (∀ i, i ≤ N → g i < N) → ∃ i j, i < j ∧ j ≤ N ∧ g i = g j
  | 0, g, h => absurd (h 0 (Nat.le_refl _)) (by omega)
  | N + 1, g, h => by
    by_cases hx : ∃ i, i ≤ N ∧ g i = g (N + 1)
    · obtain ⟨i, hi, e⟩ := hx
      exact ⟨i, N + 1, by omega, Nat.le_refl _, e⟩
    · have hne : ∀ i, i ≤ N → g i ≠ g (N + 1) := fun i hi e => hx ⟨i, hi, e⟩
      obtain ⟨i, j, h1, h2, h3⟩ := pigeons N (fun i => if g (N + 1) < g i then g i - 1 else g i) (fun i hi => by
        have h4 := h i (by omega)
        have h5 := h (N + 1) (Nat.le_refl _)
        have h6 := hne i hi
        by_cases e : g (N + 1) < g i
        · rw [if_pos e]; omega
        · rw [if_neg e]; omega)
      refine ⟨i, j, h1, by omega, ?_⟩
      have h4 := hne i (by omega)
      have h5 := hne j h2
      by_cases e : g (N + 1) < g i
      · rw [if_pos e] at h3
        by_cases e2 : g (N + 1) < g j
        · rw [if_pos e2] at h3; omega
        · rw [if_neg e2] at h3; omega
      · rw [if_neg e] at h3
        by_cases e2 : g (N + 1) < g j
        · rw [if_pos e2] at h3; omega
        · rw [if_neg e2] at h3; omega
section
variable {n : List (List Int)} {ps : List PairD} {N v : Nat} {f : Nat → Nat} {st lp : List Int}
/-- the loop of a play: it is come to, it goes round within itself -/
theorem play_loop (hs : ∀ x, x < N → f x < N ∧ (f x : Int) ∈ gl n x) (hv : v < N) (h : isPlay f v st lp) : (∃ u : Nat, (u : Int) ∈ lp ∧ (v = u ∨ Way (fun x y => (y : Int) ∈ gl n x) v u)) ∧
    (∀ x : Nat, (x : Int) ∈ lp → x < N) ∧ ∀ x y : Nat, (x : Int) ∈ lp → (y : Int) ∈ lp → Way (WX n (fun u => (u : Int) ∈ lp)) x y := by
  obtain ⟨k, t, hkt, rfl, rfl, he⟩ := h
  have hin : ∀ i, itr f v i < N := fun i => by
    induction i with
    | zero => exact hv
    | succ i ih => exact (hs _ ih).1
  have mem : ∀ u : Nat, (u : Int) ∈ itrL f v k (t - k) ↔ ∃ i, i < t - k ∧ u = itr f v (k + i) := fun u => by
    unfold itrL
    rw [List.mem_map]
    constructor
    · rintro ⟨i, hi, e⟩
      exact ⟨i, List.mem_range.1 hi, by omega⟩
    · rintro ⟨i, hi, e⟩
      exact ⟨i, List.mem_range.2 hi, by rw [e]⟩
  have edge : ∀ i, ((itr f v (i + 1) : Nat) : Int) ∈ gl n (itr f v i) := fun i => (hs _ (hin i)).2
  have inl : ∀ i, k ≤ i → i < t → ((itr f v i : Nat) : Int) ∈ itrL f v k (t - k) := fun i h1 h2 => (mem _).2 ⟨i - k, by omega, by rw [show k + (i - k) = i by omega]⟩
  have inl2 : ∀ i, k ≤ i → i ≤ t → ((itr f v i : Nat) : Int) ∈ itrL f v k (t - k) := fun i h1 h2 => by
    by_cases e : i = t
    · rw [e, he]; exact inl k (Nat.le_refl _) hkt
    · exact inl i h1 (by omega)
  have up : ∀ d i, k ≤ i → i + (d + 1) ≤ t → Way (WX n (fun u => (u : Int) ∈ itrL f v k (t - k))) (itr f v i) (itr f v (i + (d + 1))) := fun d => by
    induction d with
    | zero => exact fun i h1 h2 => .one ⟨inl2 i h1 (by omega), inl2 (i + 1) (by omega) (by omega), edge i⟩
    | succ d ih => exact fun i h1 h2 => (ih i h1 (by omega)).step ⟨inl2 _ (by omega) (by omega), inl2 (i + (d + 1) + 1) (by omega) (by omega), edge (i + (d + 1))⟩
  refine ⟨⟨itr f v k, inl k (Nat.le_refl _) hkt, ?_⟩, fun x hx => ?_, fun x y hx hy => ?_⟩
  · have all : ∀ i, v = itr f v i ∨ Way (fun x y => (y : Int) ∈ gl n x) v (itr f v i) := fun i => by
      induction i with
      | zero => exact .inl rfl
      | succ i ih =>
        refine .inr ?_
        rcases ih with ih | ih
        · have h2 := edge i
          rw [← ih] at h2
          exact .one h2
        · exact ih.step (edge i)
    exact all k
  · obtain ⟨i, _, rfl⟩ := (mem x).1 hx
    exact hin _
  · obtain ⟨i, hi, rfl⟩ := (mem x).1 hx
    obtain ⟨j, hj, rfl⟩ := (mem y).1 hy
    have h1 := up (t - (k + i) - 1) (k + i) (by omega) (by omega)
    rw [show k + i + (t - (k + i) - 1 + 1) = t by omega, he] at h1
    cases j with
    | zero => exact h1
    | succ j =>
      have h2 := up j k (Nat.le_refl _) (by omega)
      exact h1.trans h2
theorem broken_free {p : List Int} (hb : brokenL ps p = []) : ∀ k, k < ps.length → (∃ x : Nat, (x : Int) ∈ p ∧ (x : Int) ∈ (gp ps k).1) → ∃ x, x ∈ p ∧ x ∈ (gp ps k).2 := by
  rintro k hk ⟨x, h1, h2⟩
  cases hm : meetB (gp ps k).2 p with
  | true =>
    obtain ⟨y, h3, h4⟩ := meet_iff.1 hm
    exact ⟨y, h4, h3⟩
  | false =>
    have h3 := mem_broken.2 ⟨hk, meet_iff.2 ⟨_, h2, h1⟩, hm⟩
    rw [hb] at h3
    cases h3
theorem play_well (hs : ∀ x, x < N → f x < N ∧ (f x : Int) ∈ gl n x) (hv : v < N) (h : isPlay f v st lp) (hb : brokenL ps lp = []) : Comes n (WellG n ps (fun u => u < N)) v := by
  obtain ⟨⟨u, hu, hvu⟩, hN, hw⟩ := play_loop hs hv h
  have hnat : ∀ y, y ∈ lp → ∃ m : Nat, y = (m : Int) := fun y hy => by
    obtain ⟨k, t, _, rfl, rfl, _⟩ := h
    unfold itrL at hy
    obtain ⟨i, _, e⟩ := List.mem_map.1 hy
    exact ⟨_, e.symm⟩
  have hg : WellG n ps (fun u => u < N) u := ⟨fun u => (u : Int) ∈ lp, hu, hN, ⟨hw, fun k hk hx => by
    obtain ⟨y, h1, h2⟩ := broken_free hb k hk hx
    obtain ⟨m, rfl⟩ := hnat y h1
    exact ⟨m, h1, h2⟩⟩⟩
  rcases hvu with rfl | hvu
  · exact .inl hg
  · exact .inr ⟨u, hvu, hg⟩
theorem play_breaks (hs : ∀ x, x < N → f x < N ∧ (f x : Int) ∈ gl n x) (hv : v < N) (h : isPlay f v st lp) (hb : brokenL ps lp ≠ []) : Comes n (BrkG n N ps ps.length) v := by
  obtain ⟨⟨u, hu, hvu⟩, hN, hw⟩ := play_loop hs hv h
  obtain ⟨k, hk⟩ : ∃ k, k ∈ brokenL ps lp := List.exists_mem_of_ne_nil _ hb
  obtain ⟨k, rfl, hkl⟩ := broken_nat hk
  obtain ⟨_, hm1, hm2⟩ := mem_broken.1 hk
  obtain ⟨y, hya, hyl⟩ := meet_iff.1 hm1
  obtain ⟨m, rfl⟩ : ∃ m : Nat, y = (m : Int) := by
    obtain ⟨k, t, _, rfl, rfl, _⟩ := h
    unfold itrL at hyl
    obtain ⟨i, _, e⟩ := List.mem_map.1 hyl
    exact ⟨_, e.symm⟩
  have notg : ∀ x : Nat, (x : Int) ∈ lp → gb (insM N (gp ps k).2) x = true := fun x hx => by
    rw [insM_at (hN x hx)]
    have h1 : (x : Int) ∉ (gp ps k).2 := fun hg => by
      rw [meet_iff.2 ⟨_, hg, hx⟩] at hm2
      cases hm2
    unfold hasL
    rw [decide_eq_false h1]; rfl
  have way : ∀ x y : Nat, (x : Int) ∈ lp → (y : Int) ∈ lp → Way (RW n (insM N (gp ps k).2)) x y := fun x y hx hy => (hw x y hx hy).mono fun a b h => ⟨notg a h.1, notg b h.2.1, h.2.2⟩
  have hg : BrkG n N ps ps.length u := ⟨k, hkl, m, ⟨way u m hu hyl, way m u hyl hu⟩, hya⟩
  rcases hvu with rfl | hvu
  · exact .inl hg
  · exact .inr ⟨u, hvu, hg⟩
/-- from every vertex some path either breaks a pair or meets them all -/
theorem one_of (hr : ∀ x, x < N → ∃ y : Nat, y < N ∧ (y : Int) ∈ gl n x) (hv : v < N) : Comes n (BrkG n N ps ps.length) v ∨ Comes n (WellG n ps (fun u => u < N)) v := by
  have hf : ∃ f : Nat → Nat, ∀ x, x < N → f x < N ∧ (f x : Int) ∈ gl n x := by
    have : ∀ x, ∃ y : Nat, x < N → y < N ∧ (y : Int) ∈ gl n x := fun x => by
      by_cases hx : x < N
      · obtain ⟨y, hy⟩ := hr x hx
        exact ⟨y, fun _ => hy⟩
      · exact ⟨0, fun h => absurd h hx⟩
    exact ⟨fun x => Classical.choose (this x), fun x => Classical.choose_spec (this x)⟩
  obtain ⟨f, hs⟩ := hf
  have hin : ∀ i, itr f v i < N := fun i => by
    induction i with
    | zero => exact hv
    | succ i ih => exact (hs _ ih).1
  obtain ⟨i, j, hij, _, e⟩ := pigeons N (itr f v) (fun i _ => hin i)
  have hp : isPlay f v (itrL f v 0 i) (itrL f v i (j - i)) := ⟨i, j, hij, rfl, rfl, e.symm⟩
  by_cases hb : brokenL ps (itrL f v i (j - i)) = []
  · exact .inr (play_well hs hv hp hb)
  · exact .inl (play_breaks hs hv hp hb)
end
end Go.Proofs.YtjjaolndencplaaGreat
namespace Go.Proofs.YtjjaolndencplaaGreat
open Go.RowKit

theorem brkR_len (z : ArD) (ps : List PairD) : (brkR z ps).length ≤ 256 := by
  unfold brkR
  split
  · rename_i h
    rw [Bool.and_eq_true] at h
    have h1 := (arB_iff.1 h.1).1
    refine Nat.le_trans (pick_len _ _ _) h1.2.1
  · simp
theorem specBreaksFromV (s0 s1 : Value) (a : ArD) (A : Option Addr) (n c : Nat) (ps : List PairD) (w : World) (B : Nat) (hB : B ≤ w.heap.size) (ha : RAv w s0 s1 a.1 a.2) (hp : RPS w A n c ps) :
    Calls Tryz.prog 15 #[.agg #[s0, s1], .slice A n c] w fun e w' => ∃ v, e = .returned v ∧ OI 2 w' B v (brkR a ps) ∧ Below B w w' := by
  obtain ⟨A0, n0, c0, A1, n1, c1, rfl, rfl⟩ := ha.form
  exact specBreaksFrom A0 A1 A n0 c0 n1 c1 n c a ps w B hB ha.ri ha.rii hp
theorem implBreaksFromV (s0 s1 : Value) (a : ArD) (A : Option Addr) (n c : Nat) (ps : List PairD) (w : World) (B : Nat) (hB : B ≤ w.heap.size) (ha : RAv w s0 s1 a.1 a.2) (hp : RPS w A n c ps) :
    Calls Tryz.prog 8 #[.agg #[s0, s1], .slice A n c] w fun e w' => ∃ v, e = .returned v ∧ OI 2 w' B v (brkR a ps) ∧ Below B w w' := by
  obtain ⟨A0, n0, c0, A1, n1, c1, rfl, rfl⟩ := ha.form
  exact implBreaksFrom A0 A1 A n0 c0 n1 c1 n c a ps w B hB ha.ri ha.rii hp
end Go.Proofs.YtjjaolndencplaaGreat
namespace Go.Proofs.YtjjaolndencplaaGreat
open Go.RowKit

theorem RPS.kp {w w' : World} {A : Option Addr} {n c : Nat} {ps : List PairD} (h : RPS w A n c ps) (k : Kp w w') : RPS w' A n c ps :=
  ⟨h.1, h.2.1, fun i hi => by
    obtain ⟨b, off, A1, n1, c1, A2, n2, c2, e, hc1, hc2, h1, h2⟩ := h.2.2 i hi
    exact ⟨b, off, A1, n1, c1, A2, n2, c2, e, k _ _ hc1 (by simp), k _ _ hc2 (by simp), h1.kp k, h2.kp k⟩⟩
/-- what the search for parts works on -/
structure WS (w : World) (lo N ba bp bd bl g : Nat) (av0 av1 pv fv : Value) (ls : List Bool) : Prop where
  bA : Box w ba 30 #[av0, av1]
  bP : Box w bp 32 #[pv]
  bD : Box w bd 47 #[.slice (some ⟨g, 0, none⟩) N N]
  bL : Box w bl 60 #[fv]
  oG : OB 4 w lo (.slice (some ⟨g, 0, none⟩) N N) ls
section
variable {w w' : World} {lo N ba bp bd bl g : Nat} {av0 av1 pv fv : Value} {ls l2 : List Bool}
theorem WS.on (h : WS w lo N ba bp bd bl g av0 av1 pv fv ls) (hb : Below w.heap.size w w') : WS w' lo N ba bp bd bl g av0 av1 pv fv ls :=
  ⟨h.bA.below hb h.bA.lt, h.bP.below hb h.bP.lt, h.bD.below hb h.bD.lt, h.bL.below hb h.bL.lt, h.oG.below hb⟩
theorem WS.chg (h : WS w lo N ba bp bd bl g av0 av1 pv fv ls) (hc : Chg (fun z => z = g) w w') (ho : OB 4 w' lo (.slice (some ⟨g, 0, none⟩) N N) l2) : WS w' lo N ba bp bd bl g av0 av1 pv fv l2 := by
  have bx9 : ∀ {b : Nat} {t : TypeId} {xs : Array Value}, Box w b t xs → 4 ≠ t → Box w' b t xs := fun hb hne => (hc.block _ hb.lt (fun e => row_nbox h.oG hb hne (by rw [e]; rfl))).trans hb
  exact ⟨bx9 h.bA (by decide), bx9 h.bP (by decide), bx9 h.bD (by decide), bx9 h.bL (by decide), ho⟩
theorem WS.kp (h : WS w lo N ba bp bd bl g av0 av1 pv fv ls) (hc : Chg (fun z => z = g) w w') : Kp w w' := fun _ _ h1 h2 => chg_cellB hc h1 (h.oG.alone h1 h2)
end
theorem look_enter (args : Array Value) (w : World) : (callFunc 30 args).run Tryz.prog w = .ok (.enter 30 args) w := by kernel_rfl
set_option maxRecDepth 100000 in
set_option maxHeartbeats 3200000 in
theorem lookC (lo N ba bp bd bl g : Nat) (A0 A1 P : Option Addr) (c0 c1 m d : Nat) (n : List (List Int)) (ps : List PairD) (hN : N ≤ 256)
    (hE : ∀ x, x < N → (gl n x).length ≤ 16 ∧ ∀ j, j < (gl n x).length → ∃ m : Nat, gi (gl n x) j = (m : Int) ∧ m < N) (hf : finePs ps) :
    ∀ (M : Nat) (C : Option Addr) (k f : Nat) (s : List Int) (w : World) (ls : List Bool), N < M + cntF (mkM N s) → RII w A1 N c1 n → RPS w P m d ps → RI w C k f s → setB s (N : Int) = true → ls.length = N → WS w lo N ba bp bd bl g (.slice A0 N c0) (.slice A1 N c1) (.slice P m d) (.func (.func 30) #[] #[.pointer (some ⟨ba, 0, none⟩), .pointer (some ⟨bp, 0, none⟩), .pointer (some ⟨bd, 0, none⟩), .pointer (some ⟨bl, 0, none⟩)]) ls →
      Calls Tryz.prog 30 #[.slice C k f, .pointer (some ⟨ba, 0, none⟩), .pointer (some ⟨bp, 0, none⟩), .pointer (some ⟨bd, 0, none⟩), .pointer (some ⟨bl, 0, none⟩)] w fun e w' => e = .returned (.tuple #[]) ∧ ∃ l2, MkB N l2 (fun v => gb ls v = true ∨ WellG n ps (fun u => (u : Int) ∈ s) v) ∧ WS w' lo N ba bp bd bl g (.slice A0 N c0) (.slice A1 N c1) (.slice P m d) (.func (.func 30) #[] #[.pointer (some ⟨ba, 0, none⟩), .pointer (some ⟨bp, 0, none⟩), .pointer (some ⟨bd, 0, none⟩), .pointer (some ⟨bl, 0, none⟩)]) l2 ∧ Chg (fun z => z = g) w w' := by
  intro M
  induction M with
  | zero =>
    intro C k f s w ls hM
    have := cntF_le (mkM N s)
    rw [mkM_len] at this
    omega
  | succ M IH =>
    intro C k f s w ls hM hx hp hs hset hl hW
    have HIH := Lib.hid IH
    have HE := Lib.hid hE
    have HM := Lib.hid hM
    have HF := Lib.hid hf
    have HS := Lib.hid hset
    have HL := Lib.hid hl
    have HPL := Lib.hid hp.len
    have hm4 : m ≤ 4 := by have := hf.1; rw [hp.len] at this; exact this
    have p1 := hp.cap; have p2 := hp.top
    have qa0 := hW.bA.d0; have qa1 := hW.bA.d1
    have hlo := loopsOf A0 A1 C c0 c1 k f N n s w _ (Nat.le_refl _) hx hs hset hN hE
    clear IH hE hM hf hset hl
    go_enter Tryz.func30, Tryz.ntmps30
    go_wp2_with fail
    refine hlo.mono ?_; rintro e w1 ⟨Aq, cq, qs, rfl, hq, hqs, hb1⟩
    have HQS := Lib.hid hqs
    have hk1 := Kp.of hb1 (Nat.le_refl _)
    have hx1 := hx.kp hk1
    have hp1 := hp.kp hk1
    have hW1 := hW.on hb1
    have hc1 : Chg (fun z => z = g) w w1 := (Chg.refl (fun z => z = g) w).then_below hb1 (Nat.le_refl _)
    have r3 := hq.cap; have r4 := hq.top
    have H1 : Hid (MkB N ls (fun v => gb ls v = true ∨ WelJ n ps qs 0 v)) := Lib.hid ⟨HL.out, fun v => ⟨.inl, fun h => h.elim id (fun ⟨i, hi, _⟩ => absurd hi (by omega))⟩⟩
    clear hlo hqs hx hp hW qa0 qa1 hb1 hk1
    go_wp2
    go_loopw [15] (fun i wr => ∃ (j : Nat) (l2 : List Bool), j ≤ qs.length ∧ i = .int .i64 (j : Int) ∧ Hid (MkB N l2 (fun v => gb ls v = true ∨ WelJ n ps qs j v)) ∧ WS wr lo N ba bp bd bl g (.slice A0 N c0) (.slice A1 N c1) (.slice P m d) (.func (.func 30) #[] #[.pointer (some ⟨ba, 0, none⟩), .pointer (some ⟨bp, 0, none⟩), .pointer (some ⟨bd, 0, none⟩), .pointer (some ⟨bl, 0, none⟩)]) l2 ∧ Kp w1 wr ∧ Chg (fun z => z = g) w wr) (fun i _ => qs.length - (intOf i).toNat)
    case atStart => exact ⟨0, ls, Nat.zero_le _, rfl, H1, hW1, Kp.refl w1, hc1⟩
    case round =>
      clear hW1 hc1 H1
      obtain ⟨j, l2, hj, rfl, HI, hW, hkr, hcr⟩ := hrel
      obtain ⟨wo, rfl⟩ : ∃ wo : World, wo = wr := ⟨_, rfl⟩
      by_cases hlt : j < qs.length
      · obtain ⟨bq, oq, Ap, np, cp, rfl, hcq0, hrq0⟩ := hq.at_ hlt
        have hcq := hkr _ _ hcq0 (by simp)
        have hrq := hrq0.kp hkr
        have hxr := hx1.kp hkr
        have hpr := hp1.kp hkr
        have qp : wo.cell? ⟨bp, 0, none⟩ = some (.slice P m d) := hW.bP.cell 0
        have t5 := hrq.cap; have t6 := hrq.top
        have hmem : gl qs j ∈ qs := by
          have h1 : gl qs j = qs[j] := by simp [gl, hlt]
          rw [h1]; exact List.getElem_mem hlt
        have HMEM := Lib.hid hmem
        have HPS : Hid (setB (gl qs j) (N : Int) = true) := Lib.hid (HQS.out.2.1 _ hmem)
        have hnp : np ≤ 1048576 := by have := set_len HPS.out (Int.natCast_nonneg _); rw [hrq.len] at this; omega
        have HNP := Lib.hid hrq.len
        have hbk := brokenBy P Ap m d np cp ps (gl qs j) wo _ (Nat.le_refl _) hpr hrq HF.out hnp
        clear hcq0 hrq0 hmem
        go_wp2_with fail
        refine hbk.mono ?_; rintro e w2 ⟨v2, rfl, ho2, hb2⟩
        obtain ⟨A2, c2, rfl⟩ := ho2.form
        have u1 := ho2.reads.cap; have u2 := ho2.reads.top
        have hk2 := Kp.of hb2 (Nat.le_refl _)
        have hrq2 := hrq.kp hk2
        have hpr2 := hpr.kp hk2
        have hW2 := hW.on hb2
        have hxr2 := hxr.kp hk2
        have hkr2 := hkr.then hk2
        have hcr2 := hcr.then_below hb2 hcr.size
        clear hbk hcq hk2 hpr hrq hxr qp hW hkr hcr hb2
        go_wp2
        go_loopw [8, 24] (fun t i wi => ∃ (x : Nat) (Au : Option Addr) (nu cu : Nat), x ≤ (brokenL ps (gl qs j)).length ∧ i = .int .i64 (x : Int) ∧ t = .slice Au nu cu ∧ RI wi Au nu cu (leftL ps (gl qs j) x) ∧ Below w2.heap.size w2 wi) (fun _ i _ => (brokenL ps (gl qs j)).length - (intOf i).toNat)
        case atStart => exact ⟨0, Ap, np, cp, Nat.zero_le _, rfl, rfl, hrq2, Below.refl _ _⟩
        case round =>
          obtain ⟨x, Au, nu, cu, hxl, rfl, rfl, hru, hbu⟩ := hrel
          have v1 := hru.cap; have v2 := hru.top
          by_cases hxt : x < (brokenL ps (gl qs j)).length
          · obtain ⟨bb, ob, hA2, hcb0⟩ := ho2.reads.at_ hxt
            subst hA2
            have hcb := keeps_below hbu _ _ hcb0
            obtain ⟨kk, hkk, hkl⟩ := broken_nat (gi_mem hxt)
            rw [hkk] at hcb
            rw [HPL.out] at hkl
            have HKK := Lib.hid hkk
            have qp : wr.cell? ⟨bp, 0, none⟩ = some (.slice P m d) := (hW2.on hbu).bP.cell 0
            obtain ⟨bz, oz, Aa, na, ca, Ag, ng, cg, hP, hca0, hcg0, hra0, hrg0⟩ := hpr2.at_ hkl
            subst hP
            have hca := keeps_below hbu _ _ hca0
            have hra := hra0.keep (keeps_below hbu)
            have hris : rises (gp ps kk).1 := (HF.out.2 kk (by rw [HPL.out]; exact hkl)).1
            have hna : na ≤ 1048576 := by have := (HF.out.2 kk (by rw [HPL.out]; exact hkl)).2.2.1; rw [hra.len] at this; exact this
            have hnu : nu ≤ 1048576 := by have := leftL_len (ps := ps) (p := gl qs j) x; rw [hru.len, HNP.out] at this; omega
            have hls := lessOf Au Aa nu cu na ca (leftL ps (gl qs j) x) (gp ps kk).1 wr _ (Nat.le_refl _) hru hra hris hnu hna
            have HLS : Hid (leftL ps (gl qs j) (x + 1) = lessL (leftL ps (gl qs j) x) (gp ps kk).1) := Lib.hid (by rw [leftL, HKK.out]; rfl)
            clear hkk
            go_wp2_with fail
            refine hls.mono ?_; rintro e w4 ⟨v4, rfl, ho4, hb4⟩
            obtain ⟨A4, c4, rfl⟩ := ho4.form
            have hr4 := ho4.reads
            have hbu4 := below_then hb4 hbu.size hbu
            clear hls
            go_wp2
            go_roundw
            case rel => exact ⟨x + 1, A4, _, c4, by omega, by go_num, rfl, by rw [HLS.out]; exact hr4, hbu4⟩
            case measure => simp [intOf]; omega
          · obtain rfl : x = (brokenL ps (gl qs j)).length := by omega
            obtain ⟨w5, rfl⟩ : ∃ w5 : World, w5 = wr := ⟨_, rfl⟩
            have hk5 := Kp.of hbu (Nat.le_refl _)
            have hW5 := hW2.on hbu
            have hkr5 := hkr2.then hk5
            have hrq5 := hrq2.kp hk5
            have hcr5 := hcr2.then_below hbu hcr2.size
            have qd : w5.cell? ⟨bd, 0, none⟩ = some (.slice (some ⟨g, 0, none⟩) N N) := hW5.bD.cell 0
            have ql : w5.cell? ⟨bl, 0, none⟩ = some (.func (.func 30) #[] #[.pointer (some ⟨ba, 0, none⟩), .pointer (some ⟨bp, 0, none⟩), .pointer (some ⟨bd, 0, none⟩), .pointer (some ⟨bl, 0, none⟩)]) := hW5.bL.cell 0
            by_cases hbn : brokenL ps (gl qs j) = []
            · have HBN := Lib.hid hbn
              obtain rfl : nu = np := by
                have := hru.len
                rw [leftL_eq hbn] at this
                rw [← this]; exact HNP.out
              have hml := markAllC Ap g lo N nu cp l2 (gl qs j) w5 hW5.oG HI.out.1 hrq5 HPS.out
              clear hbn
              go_wp2_with fail
              refine hml.mono ?_; rintro e w9 ⟨rfl, l9, ho9, hm9, hc9⟩
              have HM9 := Lib.hid hm9
              have hW9 := hW5.chg hc9 ho9
              have hk9 := hkr5.then (hW5.kp hc9)
              have hcr9 : Chg (fun z => z = g) w w9 := hcr5.trans hc9 (fun _ h => h) (fun _ h => h)
              clear hml hm9
              go_wp2
              exact ⟨⟨j + 1, l9, by omega, by go_num, Lib.hid (HM9.out.cong (fun v => by rw [welJ_fine HBN.out, ← or_assoc, HI.out.2 v])), hW9, hk9, hcr9⟩, by simp [intOf]; omega⟩
            · have HBN := Lib.hid hbn
              have hlt5 : nu < np := by
                have h1 := leftL_lt hbn
                rw [hru.len, HNP.out] at h1
                exact h1
              have hIH := HIH.out Au nu cu (leftL ps (gl qs j) (brokenL ps (gl qs j)).length) w5 l2 (by
                  have h1 := rest_lt (inner := mkM N (leftL ps (gl qs j) (brokenL ps (gl qs j)).length)) (ps := ps) HQS.out.1 HMEM.out (by rw [mkM_len, mkM_len]) (fun u => by
                    by_cases hu : u < N
                    · rw [mkM_iff hu]; exact leftL_all
                    · refine ⟨fun h => ?_, fun h => ?_⟩
                      · have := lt_ins (mkM_len N _) h
                        omega
                      · have := set_mem HPS.out h.1
                        omega) hbn
                  have h2 := HM.out
                  omega) (hx1.kp hkr5) (hp1.kp hkr5) hru (leftL_set HPS.out _) HI.out.1 hW5
              have hve := look_enter
              have hne5 : decide ((nu : Int) = (np : Int)) = false := decide_eq_false (by omega)
              clear hbn
              go_wp2_with fail
              refine hIH.mono ?_; rintro e w9 ⟨rfl, l9, hm9, hW9, hc9⟩
              have HM9 := Lib.hid hm9
              have hk9 := hkr5.then (hW5.kp hc9)
              have hcr9 : Chg (fun z => z = g) w w9 := hcr5.trans hc9 (fun _ h => h) (fun _ h => h)
              clear hIH hm9
              go_wp2
              exact ⟨⟨j + 1, l9, by omega, by go_num, Lib.hid (HM9.out.cong (fun v => by rw [welJ_rest HBN.out, ← or_assoc, HI.out.2 v]; exact or_congr Iff.rfl (WellG.cong fun u => leftL_all.symm))), hW9, hk9, hcr9⟩, by simp [intOf]; omega⟩
      · obtain rfl : j = qs.length := by omega
        go_wp2
        go_end0
        exact ⟨rfl, l2, HI.out.cong (fun v => or_congr Iff.rfl ((WellG.cong fun u => by
          by_cases hu : u < N
          · exact (mkM_iff hu).symm
          · refine ⟨fun h => ?_, fun h => ?_⟩
            · have := set_mem HS.out h
              omega
            · have := lt_ins (mkM_len N _) h
              omega).trans (wel_all HQS.out.1).symm)), hW, hcr⟩
end Go.Proofs.YtjjaolndencplaaGreat
namespace Go.Proofs.YtjjaolndencplaaGreat
open Go.RowKit

theorem well_start {n : List (List Int)} {ps : List PairD} {N u : Nat} : (gb (List.replicate N false) u = true ∨ WellG n ps (fun u => (u : Int) ∈ allL N) u) ↔ WellG n ps (fun u => u < N) u := by
  rw [gb_repF]
  refine ⟨fun h => h.elim (fun h => by cases h) (fun h => h.mono fun x hx => ?_), fun h => .inr (h.mono fun x hx => ?_)⟩
  · have := set_mem (allL_set N) hx
    omega
  · have h1 := allL_mem (n := N) (i := x) (by rw [allL_len]; exact hx)
    rw [← h1]
    exact gi_mem (by rw [allL_len]; exact hx)
theorem Box.e0 {w : World} {b : Nat} {t : TypeId} {x : Value} (h : Box w b t #[x]) : w.cell? ⟨b, 0, none⟩ = some x := h.cell 0
set_option maxRecDepth 100000 in
set_option maxHeartbeats 3200000 in
theorem implWellFrom (A0 A1 P : Option Addr) (n0 c0 n1 c1 m d : Nat) (z : List Int × List (List Int)) (ps : List PairD) (w : World) (B : Nat) (hB : B ≤ w.heap.size) (hr : RI w A0 n0 c0 z.1) (hx : RII w A1 n1 c1 z.2) (hp : RPS w P m d ps) :
    Calls Tryz.prog 10 #[.agg #[.slice A0 n0 c0, .slice A1 n1 c1], .slice P m d] w fun e w' => ∃ v, e = .returned v ∧ OI 2 w' B v (welR z ps) ∧ Below B w w' := by
  have HL := Lib.hid hr.len
  have hba : Below w.heap.size w ((w.alloc (.cells #[.slice A0 n0 c0, .slice A1 n1 c1] 30)).alloc (.cells #[.slice P m d] 32)) := below_alloc (Nat.le_refl _) (below_alloc (Nat.le_refl _) (Below.refl _ _))
  have bA := (Box.new w 30 #[.slice A0 n0 c0, .slice A1 n1 c1]).alloc (.cells #[.slice P m d] 32)
  have bP : Box ((w.alloc (.cells #[.slice A0 n0 c0, .slice A1 n1 c1] 30)).alloc (.cells #[.slice P m d] 32)) (w.heap.size + 1) 32 #[.slice P m d] := Box.new' (by simp)
  have q0 := bA.d0; have q1 := bA.d1; have q2 := bP.e0
  have p1 := hp.cap; have p2 := hp.top; have r1 := hr.cap; have r2 := hr.top
  cases h1 : arB z.1 z.2 with
  | false =>
    have E : Hid (welR z ps = []) := Lib.hid (by unfold welR; rw [h1]; rfl)
    have H1 := Lib.hid h1
    clear h1
    go_enter Tryz.func10, Tryz.ntmps10
    go_wp2_with fail
    go_region_law (go_simp; go_at_call 20; refine (implArenaOk A0 A1 n0 c0 n1 c1 z.1 z.2 _ _ (Nat.le_refl _) (hr.keep (keeps_below (Below.drew hba))) (hx.keep (keeps_below (Below.drew hba)))).mono ?_; rintro e w1 ⟨rfl, hb1⟩; rw [H1.out]; replace hb1 := below_undrew hb1; have hw1 := below_then hb1 hba.size hba; have bA1 := bA.below hb1 bA.lt; have bP1 := bP.below hb1 bP.lt; have q10 := bA1.d0; have q11 := bA1.d1; have q12 := bP1.e0)
    all_goals
      (go_wp2
       go_ret
       exact ⟨_, rfl, by rw [E.out]; exact OI.nil _ _ _, hw1.mono hB⟩)
  | true =>
    obtain ⟨⟨k1, k2, k3⟩, hE⟩ := arE h1 hr.len
    obtain rfl : n1 = n0 := by rw [← hx.len]; exact k3
    have H1 := Lib.hid h1
    clear h1
    cases h2 : pairsB ps (n1 : Int) with
    | false =>
      have E : Hid (welR z ps = []) := Lib.hid (by unfold welR; rw [HL.out, h2, Bool.and_false]; rfl)
      have H2 := Lib.hid h2
      clear h2
      go_enter Tryz.func10, Tryz.ntmps10
      go_wp2_with fail
      go_region_held3 (fun w' => w'.cell? ⟨w.heap.size, 0, none⟩ = some (.slice A0 n1 c0) ∧ w'.cell? ⟨w.heap.size, 1, none⟩ = some (.slice A1 n1 c1) ∧ w'.cell? ⟨w.heap.size + 1, 0, none⟩ = some (.slice P m d))
        (refine ⟨?_, ?_, ?_⟩ <;> repeat (first | with_reducible assumption | with_reducible refine keepD ?_ | with_reducible refine keepA ?_))
        (first
          | (go_at_call 20
             refine (implArenaOk A0 A1 n1 c0 n1 c1 z.1 z.2 _ _ (Nat.le_refl _) (hr.keep (keeps_below (Below.drew hba))) (hx.keep (keeps_below (Below.drew hba)))).mono ?_
             rintro e w1 ⟨rfl, hb1⟩
             rw [H1.out]
             replace hb1 := below_undrew hb1
             have hw1 := below_then hb1 hba.size hba
             have bA1 := bA.below hb1 bA.lt
             have bP1 := bP.below hb1 bP.lt
             have q10 := bA1.d0
             have q11 := bA1.d1
             have q12 := bP1.e0)
          | (go_at_call 22
             refine (implSize A0 A1 n1 c0 n1 c1 _ _ (Nat.le_refl _) (by omega)).mono ?_
             rintro e w2 ⟨rfl, hb2⟩
             have hw2 := below_then hb2 hw1.size hw1
             have bA2 := bA1.below hb2 bA1.lt
             have bP2 := bP1.below hb2 bP1.lt
             have q20 := bA2.d0
             have q21 := bA2.d1
             have q22 := bP2.e0)
          | (go_at_call 21
             refine (arePairs _ _ _ ps _ _ _ (Nat.le_refl _) (hp.keep (keeps_below hw2))).mono ?_
             rintro e w3 ⟨rfl, hb3⟩
             rw [H2.out]
             have hw3 := below_then hb3 hw2.size hw2
             have bA3 := bA2.below hb3 bA2.lt
             have bP3 := bP2.below hb3 bP2.lt
             have q30 := bA3.d0
             have q31 := bA3.d1
             have q32 := bP3.e0))
      go_wp2
      go_ret
      exact ⟨_, rfl, by rw [E.out]; exact OI.nil _ _ _, hw3.mono hB⟩
    | true =>
      have HFP : Hid (finePs ps) := Lib.hid (finePs_of h2 (by omega) (by omega))
      have E : Hid (welR z ps = welL z.2 n1 ps) := Lib.hid (by unfold welR; rw [H1.out, HL.out, h2]; rfl)
      have H2 := Lib.hid h2
      have HE := Lib.hid hE
      clear h2 hE
      go_enter Tryz.func10, Tryz.ntmps10
      go_wp2_with fail
      go_region_held3 (fun w' => w'.cell? ⟨w.heap.size, 0, none⟩ = some (.slice A0 n1 c0) ∧ w'.cell? ⟨w.heap.size, 1, none⟩ = some (.slice A1 n1 c1) ∧ w'.cell? ⟨w.heap.size + 1, 0, none⟩ = some (.slice P m d))
        (refine ⟨?_, ?_, ?_⟩ <;> repeat (first | with_reducible assumption | with_reducible refine keepD ?_ | with_reducible refine keepA ?_))
        (first
          | (go_at_call 20
             refine (implArenaOk A0 A1 n1 c0 n1 c1 z.1 z.2 _ _ (Nat.le_refl _) (hr.keep (keeps_below (Below.drew hba))) (hx.keep (keeps_below (Below.drew hba)))).mono ?_
             rintro e w1 ⟨rfl, hb1⟩
             rw [H1.out]
             replace hb1 := below_undrew hb1
             have hw1 := below_then hb1 hba.size hba
             have bA1 := bA.below hb1 bA.lt
             have bP1 := bP.below hb1 bP.lt
             have q10 := bA1.d0
             have q11 := bA1.d1
             have q12 := bP1.e0)
          | (go_at_call 22
             refine (implSize A0 A1 n1 c0 n1 c1 _ _ (Nat.le_refl _) (by omega)).mono ?_
             rintro e w2 ⟨rfl, hb2⟩
             have hw2 := below_then hb2 hw1.size hw1
             have bA2 := bA1.below hb2 bA1.lt
             have bP2 := bP1.below hb2 bP1.lt
             have q20 := bA2.d0
             have q21 := bA2.d1
             have q22 := bP2.e0)
          | (go_at_call 21
             refine (arePairs _ _ _ ps _ _ _ (Nat.le_refl _) (hp.keep (keeps_below hw2))).mono ?_
             rintro e w3 ⟨rfl, hb3⟩
             rw [H2.out]
             have hw3 := below_then hb3 hw2.size hw2
             have bA3 := bA2.below hb3 bA2.lt
             have bP3 := bP2.below hb3 bP2.lt
             have q30 := bA3.d0
             have q31 := bA3.d1
             have q32 := bP3.e0))
      have hs3 := hw3.size
      have hlA3 := bA3.lt
      have hlP3 := bP3.lt
      have HZ3 : Hid (w3.heap.size = w3.heap.size) := Lib.hid rfl
      have hbar := Below.refl w3.heap.size w3
      clear hba bA bP q0 q1 q2 hb1 hw1 bA1 bP1 q10 q11 q12 hb2 hw2 bA2 bP2 q20 q21 q22 hb3
      have hmf : ∀ (fn : Fn) (first cap : Array Value) (w : World), (Instr.makeFunc fn first cap).run Tryz.prog w = .ok (.func fn first cap) w := fun _ _ _ _ => rfl
      go_wp2_with (refine wpList_makeB rfl (.tmp 19) rfl _ n1 rfl (by omega) ?_; intro w4 hown hb4; have hs4 := hb4.size; have hvs := store_box (v := .func (.func 30) #[] #[.pointer (some ⟨w.heap.size, 0, none⟩), .pointer (some ⟨w.heap.size + 1, 0, none⟩), .pointer (some ⟨w4.heap.size, 0, none⟩), .pointer (some ⟨w4.heap.size + 1, 0, none⟩)]) (show Box ((w4.alloc (.cells #[.slice (some ⟨w3.heap.size, 0, none⟩) n1 n1] 47)).alloc (.cells #[.nilFunc] 60)) (w4.heap.size + 1) 60 #[.nilFunc] from Box.new' (by simp)) rfl)
      have al : ∀ (x : World) (o : Obj), Below x.heap.size x (x.alloc o) := fun x o => below_alloc (Nat.le_refl _) (Below.refl _ _)
      have hw4 : Below w.heap.size w w4 := below_then hb4 hs3 hw3
      have hown4 := hown.more (lo' := w.heap.size) hs3
      have hW5 : WS ((w4.alloc (.cells #[.slice (some ⟨w3.heap.size, 0, none⟩) n1 n1] 47)).alloc (.cells #[.func (.func 30) #[] #[.pointer (some ⟨w.heap.size, 0, none⟩), .pointer (some ⟨w.heap.size + 1, 0, none⟩), .pointer (some ⟨w4.heap.size, 0, none⟩), .pointer (some ⟨w4.heap.size + 1, 0, none⟩)]] 60)) w.heap.size n1 w.heap.size (w.heap.size + 1) w4.heap.size (w4.heap.size + 1) w3.heap.size (.slice A0 n1 c0) (.slice A1 n1 c1) (.slice P m d) (.func (.func 30) #[] #[.pointer (some ⟨w.heap.size, 0, none⟩), .pointer (some ⟨w.heap.size + 1, 0, none⟩), .pointer (some ⟨w4.heap.size, 0, none⟩), .pointer (some ⟨w4.heap.size + 1, 0, none⟩)]) (List.replicate n1 false) :=
        ⟨((bA3.below hb4 bA3.lt).alloc _).alloc _, ((bP3.below hb4 bP3.lt).alloc _).alloc _, (Box.new w4 _ _).alloc _, Box.new' (by simp), (hown4.below (al _ _)).below (al _ _)⟩
      have hw5 : Below w.heap.size w ((w4.alloc (.cells #[.slice (some ⟨w3.heap.size, 0, none⟩) n1 n1] 47)).alloc (.cells #[.func (.func 30) #[] #[.pointer (some ⟨w.heap.size, 0, none⟩), .pointer (some ⟨w.heap.size + 1, 0, none⟩), .pointer (some ⟨w4.heap.size, 0, none⟩), .pointer (some ⟨w4.heap.size + 1, 0, none⟩)]] 60)) := below_then (al _ _) (by have := hw4.size; simp; omega) (below_then (al _ _) hw4.size hw4)
      clear hvs hown hown4 hb4 hbar bA3 bP3 q30 q31 q32 hw3
      generalize ((w4.alloc (.cells #[.slice (some ⟨w3.heap.size, 0, none⟩) n1 n1] 47)).alloc (.cells #[.func (.func 30) #[] #[.pointer (some ⟨w.heap.size, 0, none⟩), .pointer (some ⟨w.heap.size + 1, 0, none⟩), .pointer (some ⟨w4.heap.size, 0, none⟩), .pointer (some ⟨w4.heap.size + 1, 0, none⟩)]] 60)) = w5 at *
      have q50 := hW5.bA.d0; have q51 := hW5.bA.d1; have q5l := hW5.bL.e0
      have hve := look_enter
      go_region_held3 (fun w' => w'.cell? ⟨w.heap.size, 0, none⟩ = some (.slice A0 n1 c0) ∧ w'.cell? ⟨w.heap.size, 1, none⟩ = some (.slice A1 n1 c1) ∧ w'.cell? ⟨w4.heap.size + 1, 0, none⟩ = some (.func (.func 30) #[] #[.pointer (some ⟨w.heap.size, 0, none⟩), .pointer (some ⟨w.heap.size + 1, 0, none⟩), .pointer (some ⟨w4.heap.size, 0, none⟩), .pointer (some ⟨w4.heap.size + 1, 0, none⟩)]))
        (refine ⟨?_, ?_, ?_⟩ <;> repeat (first | with_reducible assumption | with_reducible refine keepD ?_ | with_reducible refine keepA ?_))
        (first
          | (go_at_call 25
             refine (allOf A0 A1 n1 c0 n1 c1 _ _ (Nat.le_refl _) k2).mono ?_
             rintro e w6 ⟨v6, rfl, ho6, hb6⟩
             replace hb6 := below_undrew hb6
             obtain ⟨A6, c6, rfl⟩ := ho6.form
             rw [allL_len] at ho6 ⊢
             have hw6 := below_then hb6 hw5.size hw5
             have hW6 := hW5.on hb6
             have q60 := hW6.bA.d0
             have q61 := hW6.bA.d1
             have q62 := hW6.bL.e0)
          | (go_at_call 30
             refine (lookC w.heap.size n1 w.heap.size (w.heap.size + 1) w4.heap.size (w4.heap.size + 1) w3.heap.size A0 A1 P c0 c1 m d z.2 ps k2 HE.out HFP.out (n1 + 1) A6 n1 c6 (allL n1) w6 (List.replicate n1 false) (by omega) (hx.keep (keeps_below hw6)) (hp.keep (keeps_below hw6)) ho6.reads (allL_set n1) (by simp) hW6).mono ?_
             rintro e w7 ⟨rfl, l7, hm7, hW7, hc7⟩
             have hw7 : Below w.heap.size w w7 := hw6.trans (hc7.below hw6.size (fun x e => by rw [e]; exact hs3))
             have q70 := hW7.bA.d0
             have q71 := hW7.bA.d1
             have q72 := hW7.bL.e0))
      have HM7 := Lib.hid hm7
      have q73 := hW7.bD.e0
      have hs7 := hw7.size
      have hld := leadTo A0 A1 (some ⟨w3.heap.size, 0, none⟩) n1 c0 n1 c1 n1 n1 z.2 l7 w7 _ (Nat.le_refl _) (hx.keep (keeps_below hw7)) hW7.oG.reads rfl rfl k1 k2 HE.out
      clear hm7 hW5 hW6 hw5 hw6 hb6 ho6 hc7 q50 q51 q5l q60 q61 q62 q72
      go_wp2_with fail
      refine hld.mono ?_; rintro e w8 ⟨g8, c8, out8, rfl, ho8, hq8, hb8⟩
      have hli := listOf (some ⟨g8, 0, none⟩) n1 c8 out8 w8 _ (Nat.le_refl _) ho8.reads (by omega)
      have hw8 := below_then hb8 hs7 hw7
      go_wp2_with fail
      refine hli.mono ?_; rintro e w9 ⟨v9, rfl, ho9, hb9⟩
      have e9 : listM out8 = welL z.2 n1 ps := by
        unfold welL
        exact list_brk hq8.1 (fun v _ => (hq8.2 v).trans (comes_cong (fun u => (HM7.out.2 u).trans well_start) v))
      have hw9 := below_then hb9 hw8.size hw8
      clear hld hli
      go_wp2
      go_ret
      exact ⟨_, rfl, by rw [E.out, ← e9]; exact ho9.more (Nat.le_trans hB hw8.size), hw9.mono hB⟩
end Go.Proofs.YtjjaolndencplaaGreat
