/- Slices of slices of int64: how they read; marks and what is held; eqInt64SS. markInt64SS, heldInt64SS. -/
import Derived.Test.YtkhkdnmpbfmmeaaDoorLib
namespace Go.Proofs.YtkhkdnmpbfmmeaaDoor
open Go.RowKit

def gl (xs : List (List Int)) (i : Nat) : List Int := xs.getD i []
theorem gl_get {xs : List (List Int)} {i : Nat} (h : i < xs.length) : gl xs i = xs[i] := by simp [gl, h]
theorem gl_ext {xs ys : List (List Int)} (hl : xs.length = ys.length) (h : ∀ j, j < xs.length → gl xs j = gl ys j) : xs = ys := by
  refine List.ext_getElem hl fun i a b => ?_
  have := h i a
  rwa [gl_get a, gl_get b] at this
theorem take_gl {xs : List (List Int)} {k : Nat} (h : k < xs.length) : xs.take (k + 1) = xs.take k ++ [gl xs k] := by
  rw [gl_get h, List.take_succ_eq_append_getElem h]

/-- a slice of slices that reads as a list of lists -/
def RII (w : World) (A : Option Addr) (n c : Nat) (xs : List (List Int)) : Prop :=
  xs.length = n ∧ (n ≤ c ∧ c ≤ 9223372036854775807) ∧ ∀ i, i < n → ∃ b off A' n' c', A = some ⟨b, off, none⟩ ∧ w.cell? ⟨b, off + i, none⟩ = some (.slice A' n' c') ∧ RI w A' n' c' (gl xs i)
section
variable {w w' : World} {A : Option Addr} {n c : Nat} {xs : List (List Int)}
theorem RII.len (h : RII w A n c xs) : xs.length = n := h.1
theorem RII.cap (h : RII w A n c xs) : n ≤ c := h.2.1.1
theorem RII.top (h : RII w A n c xs) : c ≤ 9223372036854775807 := h.2.1.2
theorem RII.at_ (h : RII w A n c xs) {i : Nat} (hi : i < n) : ∃ b off A' n' c', A = some ⟨b, off, none⟩ ∧ w.cell? ⟨b, off + i, none⟩ = some (.slice A' n' c') ∧ RI w A' n' c' (gl xs i) := h.2.2 i hi
theorem RII.keep (h : RII w A n c xs) (k : Keeps w w') : RII w' A n c xs :=
  ⟨h.1, h.2.1, fun i hi => by
    obtain ⟨b, off, A', n', c', e, hc, hr⟩ := h.2.2 i hi
    exact ⟨b, off, A', n', c', e, k _ _ hc, hr.keep k⟩⟩
end
/-- from a row of slice values, each of the call's own -/
theorem RII.of_rows {w : World} {E EE : TypeId} {lo lo' n c : Nat} {A : Option Addr} {cs : List Value} {xs : List (List Int)} (hl : xs.length = n)
    (h1 : w.ownsRow lo EE 1 (.slice A n c) n cs) (h2 : OL E w lo' cs (gl xs)) : RII w A n c xs := by
  obtain ⟨A', c', e, hc1, hc2, hg⟩ := row_form h1
  injection e with e1 e2 e3
  subst e1; subst e3
  refine ⟨hl, ⟨hc1, hc2⟩, fun i hi => ?_⟩
  obtain ⟨g, rfl⟩ := hg (by omega)
  have hcl := row_len h1
  have o := h2 i (by omega)
  have k := row_cell h1 (j := i) (by omega)
  obtain ⟨A2, c2, e2⟩ := o.form
  rw [e2] at o k
  exact ⟨g, 0, A2, _, c2, rfl, by simpa using k, o.reads⟩

def eqLL (xs ys : List (List Int)) : Bool := decide (xs = ys)

set_option maxHeartbeats 400000 in
theorem eqGrid (A B : Option Addr) (n m c d : Nat) (xs ys : List (List Int)) (w : World) (ha : RII w A n c xs) (hb : RII w B m d ys) :
    Calls Tryd.prog 96 #[.slice A n c, .slice B m d] w fun e w' => e = .returned (.bool (eqLL xs ys)) ∧ Qt w w' := by
  have b1 := ha.cap; have b2 := ha.top; have b3 := hb.cap; have b4 := hb.top
  by_cases hnm : n = m
  · subst hnm
    have hnn : ((n : Int) != (n : Int)) = false := by simp
    go_enter Tryd.func96, Tryd.ntmps96
    go_wp2
    go_loopw [5] (fun i wr => ∃ k : Nat, k ≤ n ∧ i = .int .i64 k ∧ (∀ j, j < k → gl xs j = gl ys j) ∧ ∃ q, wr = w.drewN q) (fun i _ => n - (intOf i).toNat)
    case atStart => exact ⟨0, Nat.zero_le _, rfl, by omega, 0, rfl⟩
    case round =>
      obtain ⟨k, hk, rfl, hall, q, rfl⟩ := hrel
      have HA := Lib.hid hall
      clear hall
      by_cases hlt : k < n
      · obtain ⟨b, off, A1, n1, c1, rfl, hc1, r1⟩ := ha.at_ hlt
        obtain ⟨b', off', A2, n2, c2, rfl, hc2, r2⟩ := hb.at_ hlt
        have hki : (k : Int) < (n : Int) := by omega
        have hk0 : (0 : Int) ≤ (k : Int) := by omega
        by_cases he : eqL (gl xs k) (gl ys k) = true
        · have H := Lib.hid (of_decide_eq_true he)
          go_wp2
          go_quiet ((go_at_call 20; exact quiet1 (eqInts _ _ _ _ _ _ _ _ _ (by exact r1) (by exact r2))))
          go_wp2
          go_roundw
          case rel => exact ⟨k + 1, by omega, by go_num, all_succ HA.out H.out, _, rfl⟩
          case measure => simp [intOf]; omega
        · replace he : eqL (gl xs k) (gl ys k) = false := by simpa using he
          have E := Lib.hid (show eqLL xs ys = false from decide_eq_false (by rintro rfl; simp [eqL] at he))
          go_wp2
          go_quiet ((go_at_call 20; exact quiet1 (eqInts _ _ _ _ _ _ _ _ _ (by exact r1) (by exact r2))))
          go_wp2
          go_ret
          exact ⟨ret_b E.out.symm, Qt.drew2 _ _⟩
      · obtain rfl : k = n := by omega
        have E := Lib.hid (show eqLL xs ys = true from decide_eq_true (gl_ext (by rw [ha.len, hb.len]) fun j hj => HA.out j (by rw [← ha.len]; exact hj)))
        go_wp2
        go_ret
        exact ⟨ret_b E.out.symm, _, rfl⟩
  · have hnn : ((n : Int) != (m : Int)) = true := by simp; omega
    have E := Lib.hid (show eqLL xs ys = false from decide_eq_false (by rintro rfl; exact hnm (by rw [← ha.len, ← hb.len])))
    clear hnm
    go_enter Tryd.func96, Tryd.ntmps96
    go_wp2
    go_ret
    exact ⟨ret_b E.out.symm, Qt.refl _⟩

/-! ### marks -/
/-- k, k + 1, .. -/
def upto (k : Int) (n : Nat) : List Int := (List.range n).map fun (i : Nat) => k + (i : Int)
theorem upto_len (k : Int) (n : Nat) : (upto k n).length = n := by simp [upto]
theorem upto_at {k : Int} {n i : Nat} (h : i < n) : gi (upto k n) i = k + i := by rw [gi_get (by rw [upto_len]; exact h)]; simp [upto]
def tot (xs : List (List Int)) : Nat := (xs.map List.length).sum
def mkL : Int → List (List Int) → List (List Int)
  | _, [] => []
  | k, x :: r => upto k x.length :: mkL (k + x.length) r
theorem mkL_len : ∀ (xs : List (List Int)) (k : Int), (mkL k xs).length = xs.length
  | [], _ => rfl
  | x :: r, k => by simp [mkL, mkL_len r]
theorem mkL_at : ∀ (xs : List (List Int)) (k : Int) (i : Nat), i < xs.length → gl (mkL k xs) i = upto (k + tot (xs.take i)) (gl xs i).length
  | [], _, i, h => absurd h (by simp)
  | x :: r, k, 0, _ => by simp [mkL, gl, tot]
  | x :: r, k, i + 1, h => by
    have h' : i < r.length := by simpa using h
    have := mkL_at r (k + x.length) i h'
    simp only [mkL, gl, List.getD_cons_succ] at this ⊢
    rw [this]
    congr 1
    simp only [tot, List.take_succ_cons, List.map_cons, List.sum_cons]
    omega
theorem tot_take {xs : List (List Int)} {k : Nat} (h : k < xs.length) : tot (xs.take (k + 1)) = tot (xs.take k) + (gl xs k).length := by
  unfold tot
  rw [take_gl h, List.map_append, List.sum_append]
  simp
theorem tot_le (xs : List (List Int)) (k : Nat) : tot (xs.take k) ≤ tot xs := by
  conv => rhs; rw [← List.take_append_drop k xs]
  unfold tot
  rw [List.map_append, List.sum_append]
  omega

/-- what has turned lies in S -/
structure Chg (S : Nat → Prop) (w w' : World) : Prop where
  os : w'.os = w.os
  tape : w'.tape = w.tape
  output : w'.output = w.output
  size : w.heap.size ≤ w'.heap.size
  block : ∀ k, k < w.heap.size → ¬ S k → w'.heap[k]? = w.heap[k]?
theorem Chg.refl (S : Nat → Prop) (w : World) : Chg S w w := ⟨rfl, rfl, rfl, Nat.le_refl _, fun _ _ _ => rfl⟩
theorem Chg.trans {S T U : Nat → Prop} {a b c : World} (h : Chg S a b) (k : Chg T b c) (hS : ∀ x, S x → U x) (hT : ∀ x, T x → U x) : Chg U a c :=
  ⟨k.os.trans h.os, k.tape.trans h.tape, k.output.trans h.output, Nat.le_trans h.size k.size, fun x hx hu =>
    (k.block x (Nat.lt_of_lt_of_le hx h.size) (fun hs => hu (hT x hs))).trans (h.block x hx (fun hs => hu (hS x hs)))⟩
theorem Chg.mono {S T : Nat → Prop} {a b : World} (h : Chg S a b) (hS : ∀ x, S x → T x) : Chg T a b := ⟨h.os, h.tape, h.output, h.size, fun x hx hu => h.block x hx (fun hs => hu (hS x hs))⟩
theorem Chg.below {S : Nat → Prop} {a b : World} {B : Nat} (h : Chg S a b) (hB : B ≤ a.heap.size) (hS : ∀ x, S x → B ≤ x) : Below B a b :=
  ⟨h.os, h.tape, h.output, h.size, fun x hx => h.block x (by omega) (fun hs => by have := hS x hs; omega)⟩
theorem Chg.of_grown {a b : World} {row : Option Nat} (h : a.grownBy b row) : Chg (fun x => row = some x) a b :=
  ⟨h.os, h.tape, h.output, h.size, fun x hx hu => h.block x hx (fun e => hu e.symm)⟩
theorem Chg.of_below {a b : World} {B : Nat} (h : Below B a b) : Chg (fun x => B ≤ x) a b := ⟨h.os, h.tape, h.output, h.size, fun x _ hu => h.block x (by omega)⟩
theorem row_chg {E : TypeId} {S : Nat → Prop} {w w' : World} {lo size n : Nat} {v : Value} {cs : List Value} (h : w.ownsRow lo E size v n cs) (hc : Chg S w w') (hS : ∀ b, v.ownBlock = some b → ¬ S b) : w'.ownsRow lo E size v n cs := by
  refine ⟨h.1, ?_⟩
  rcases h.2 with h1 | ⟨g, cap, cur, rfl, h2, h3, h4⟩
  · exact .inl h1
  · exact .inr ⟨g, cap, cur, rfl, h2, (hc.block g (Array.getElem?_eq_some_iff.1 h3).1 (hS g rfl)).trans h3, h4⟩
theorem OI.chg {E : TypeId} {S : Nat → Prop} {w w' : World} {lo : Nat} {v : Value} {xs : List Int} (h : OI E w lo v xs) (hc : Chg S w w') (hS : ∀ b, v.ownBlock = some b → ¬ S b) : OI E w' lo v xs := row_chg h hc hS
/-- rows of different element types never share a block -/
theorem own_ne {w : World} {E E' : TypeId} {lo lo' s s' n n' : Nat} {u v : Value} {xs ys : List Value} (h : w.ownsRow lo E s u n xs) (k : w.ownsRow lo' E' s' v n' ys) (hne : E ≠ E') : ∀ b, u.ownBlock = some b → v.ownBlock ≠ some b := by
  intro b hu hv
  rcases h.2 with ⟨rfl, _⟩ | ⟨g, cap, cur, rfl, _, h3, _⟩
  · simp [Value.ownBlock] at hu
  · rcases k.2 with ⟨rfl, _⟩ | ⟨g', cap', cur', rfl, _, k3, _⟩
    · simp [Value.ownBlock] at hv
    · simp [Value.ownBlock] at hu hv
      subst hu; subst hv
      rw [h3] at k3
      injection k3 with k3
      injection k3 with _ k4
      exact hne k4

set_option maxHeartbeats 400000 in
theorem markInts (A : Option Addr) (n c : Nat) (xs : List Int) (k : Int) (w : World) (lo : Nat) (ho : OI 2 w lo (.slice A n c) xs) (hk0 : 0 ≤ k) (hk1 : k + n ≤ 4611686018427387904) :
    Calls Tryd.prog 23 #[.slice A n c, .int .i64 k] w fun e w' => e = .returned (.int .i64 (k + n)) ∧ OI 2 w' lo (.slice A n c) (upto k n) ∧ w.grownBy w' (Value.slice A n c).ownBlock := by
  have hr := ho.reads
  have b1 := hr.cap; have b2 := hr.top
  have hlen := hr.len
  have HLEN := Lib.hid hlen
  clear hlen
  rcases Nat.eq_zero_or_pos n with h0 | h0
  · subst h0
    go_enter Tryd.func23, Tryd.ntmps23
    go_wp2
    refine wp_loop_rounds 1 ?_
    rw [rounds_succ]
    go_wp2
    go_ret
    obtain rfl : xs = [] := List.eq_nil_of_length_eq_zero HLEN.out
    exact ⟨ret_i (by simp), ho, World.grownBy.refl _ _⟩
  · obtain ⟨A', c', e, _, _, hg⟩ := row_form ho
    injection e with e1 e2 e3
    subst e1; subst e3
    obtain ⟨g, rfl⟩ := hg (by rw [HLEN.out]; exact h0)
    clear hg e2
    go_enter Tryd.func23, Tryd.ntmps23
    go_wp2
    go_loopw [1, 5] (fun s i wr => ∃ (j : Nat) (r : Int), j ≤ n ∧ i = .int .i64 j ∧ s = .int .i64 r ∧ 0 ≤ r ∧ r ≤ 4611686018427387904 ∧ r = k + j ∧
        (∃ ys, ys.length = n ∧ OI 2 wr lo (.slice (some ⟨g, 0, none⟩) n c) ys ∧ ∀ i, i < j → gi ys i = k + i) ∧ w.grownBy wr (some g)) (fun _ i _ => n - (intOf i).toNat)
    case atStart => exact ⟨0, k, Nat.zero_le _, rfl, rfl, hk0, by omega, by omega, ⟨xs, HLEN.out, ho, by omega⟩, World.grownBy.refl _ _⟩
    case round =>
      obtain ⟨j, r, hj, rfl, rfl, hr0, hr1, hr2, ⟨ys, hl, hoy, hall⟩, hgr⟩ := hrel
      have HR := Lib.hid hr2
      have HL := Lib.hid hl
      have HO := Lib.hid hoy
      have HA := Lib.hid hall
      have HG := Lib.hid hgr
      clear hr2 hl hoy hall hgr
      by_cases hlt : j < n
      · have hcm := HO.out.cellAt (i := j) (by rw [HL.out]; exact hlt)
        have hfz := HO.out.hot (i := j) HL.out.symm
        have hrn : r + 1 ≤ 4611686018427387904 := by have := HR.out; omega
        go_wp2
        go_roundw
        case rel =>
          refine ⟨j + 1, r + 1, by omega, by go_num, rfl, by omega, hrn, by have := HR.out; omega, ⟨ys.set j r, by rw [List.length_set]; exact HL.out, HO.out.set_ HL.out.symm r, fun i hi => ?_⟩, ?_⟩
          · rw [gi_set (by rw [HL.out]; exact hlt)]
            by_cases e : j = i
            · rw [if_pos e, HR.out, e]
            · rw [if_neg e]; exact HA.out i (by omega)
          · exact ⟨HG.out.os, HG.out.tape, HG.out.output, by have := HG.out.size; simpa using this, fun x hx hne => (Below.heap_setCell _ _ _ _ (by rintro rfl; exact hne rfl)).trans (HG.out.block x hx hne)⟩
        case measure => simp [intOf]; omega
      · obtain rfl : j = n := by omega
        go_wp2
        go_ret
        obtain rfl : ys = upto k j := gi_ext (by rw [HL.out, upto_len]) fun i hi => by rw [HA.out i (by rw [← HL.out]; exact hi), upto_at (by rw [← HL.out]; exact hi)]
        exact ⟨ret_i (by rw [HR.out]), HO.out, HG.out⟩

theorem heldInts (A : Option Addr) (n c : Nat) (k : Int) (w : World) (ho : RI w A n c (upto k n)) (hk0 : 0 ≤ k) (hk1 : k + n ≤ 4611686018427387904) :
    Calls Tryd.prog 24 #[.slice A n c, .int .i64 k] w fun e w' => e = .returned (.int .i64 (k + n)) ∧ Qt w w' := by
  have b1 := ho.cap; have b2 := ho.top
  go_enter Tryd.func24, Tryd.ntmps24
  go_wp2
  go_loop [1, 5] (fun s i => ∃ (j : Nat) (r : Int), j ≤ n ∧ i = .int .i64 j ∧ s = .int .i64 r ∧ 0 ≤ r ∧ r ≤ 4611686018427387904 ∧ r = k + j) (fun _ i => n - (intOf i).toNat)
  case atStart => exact ⟨0, k, Nat.zero_le _, rfl, rfl, hk0, by omega, by omega⟩
  case round =>
    obtain ⟨j, r, hj, rfl, rfl, hr0, hr1, hr2⟩ := hrel
    have HR := Lib.hid hr2
    by_cases hlt : j < n
    · obtain ⟨b, off, rfl, hc⟩ := ho.at_ hlt
      rw [upto_at hlt, ← hr2] at hc
      have hrn : r + 1 ≤ 4611686018427387904 := by have := HR.out; omega
      have hne : (r != r) = false := by simp
      clear hr2
      go_wp2
      go_round
      case rel => exact ⟨j + 1, r + 1, by omega, by go_num, rfl, by omega, hrn, by have := HR.out; omega⟩
      case measure => simp [intOf]; omega
    · obtain rfl : j = n := by omega
      clear hr2
      go_wp2
      go_ret
      exact ⟨ret_i (by rw [HR.out]), Qt.refl _⟩
end Go.Proofs.YtkhkdnmpbfmmeaaDoor
namespace Go.Proofs.YtkhkdnmpbfmmeaaDoor
open Go.RowKit

/-- some row of the list lies in block b -/
def InL (cs : List Value) (b : Nat) : Prop := ∃ i, i < cs.length ∧ (gv cs i).ownBlock = some b

set_option maxHeartbeats 800000 in
theorem markGrid (A : Option Addr) (n c : Nat) (cs : List Value) (xs : List (List Int)) (k : Int) (w : World) (lo lo' : Nat)
    (hrow : w.ownsRow lo' 22 1 (.slice A n c) n cs) (hxs : xs.length = n) (hol : OL 2 w lo cs (gl xs)) (hdis : Dis cs) (hk0 : 0 ≤ k) (hk1 : k + tot xs ≤ 4611686018427387904) :
    Calls Tryd.prog 99 #[.slice A n c, .int .i64 k] w fun e w' => e = .returned (.int .i64 (k + tot xs)) ∧ w'.ownsRow lo' 22 1 (.slice A n c) n cs ∧ OL 2 w' lo cs (gl (mkL k xs)) ∧ Chg (InL cs) w w' := by
  have hr := RII.of_rows hxs hrow hol
  have b1 := hr.cap; have b2 := hr.top
  have hlen := row_len hrow
  have HLEN := Lib.hid hlen
  have HXS := Lib.hid hxs
  have HDIS := Lib.hid hdis
  have HROW := Lib.hid hrow
  have HOL := Lib.hid hol
  clear hlen hxs hdis hrow hol
  have htl := tot_le xs
  go_enter Tryd.func99, Tryd.ntmps99
  go_wp2
  go_loopw [1, 5] (fun s i wr => ∃ (j : Nat) (r : Int), j ≤ n ∧ i = .int .i64 j ∧ s = .int .i64 r ∧ 0 ≤ r ∧ r = k + tot (xs.take j) ∧
      wr.ownsRow lo' 22 1 (.slice A n c) n cs ∧ OL 2 wr lo cs (fun i => if i < j then gl (mkL k xs) i else gl xs i) ∧ Chg (InL cs) w wr) (fun _ i _ => n - (intOf i).toNat)
  case atStart => exact ⟨0, k, Nat.zero_le _, rfl, rfl, hk0, by simp [tot], HROW.out, HOL.out.congr (fun i _ => by simp), Chg.refl _ _⟩
  case round =>
    obtain ⟨j, r, hj, rfl, rfl, hr0, hr2, hrow, hol, hch⟩ := hrel
    have HR := Lib.hid hr2
    have HW := Lib.hid hrow
    have HO := Lib.hid hol
    have HC := Lib.hid hch
    clear hr2 hrow hol hch
    by_cases hlt : j < n
    · have hlt' : j < cs.length := by rw [HLEN.out]; omega
      obtain ⟨A0, c0, e0, _, _, hg⟩ := row_form HW.out
      injection e0 with e1 e2 e3
      obtain ⟨g, hgA⟩ := hg (by omega)
      subst e3
      rw [← e1] at hgA
      subst hgA
      clear e1 e2 hg
      have hoj := HO.out j hlt'
      simp only [Nat.lt_irrefl, if_false] at hoj
      obtain ⟨A1, c1, e1⟩ := hoj.form
      have hcell := row_cell HW.out (j := j) (by omega)
      have hown := own_ne hoj HW.out (by decide)
      rw [e1] at hoj hcell hown
      have E1 := Lib.hid e1
      clear e1
      have hsum : tot (xs.take (j + 1)) = tot (xs.take j) + (gl xs j).length := tot_take (by rw [HXS.out]; exact hlt)
      have HS := Lib.hid hsum
      have hle := htl (j + 1)
      have hkk : r + (gl xs j).length ≤ 4611686018427387904 := by have := HR.out; omega
      have hat := mkL_at xs k j (by rw [HXS.out]; exact hlt)
      rw [← HR.out] at hat
      have HAT := Lib.hid hat
      clear hat hsum hle
      go_wp2_with fail
      refine (markInts _ _ _ _ _ _ _ hoj hr0 hkk).mono ?_; rintro e w2 ⟨rfl, ho2, hg2⟩
      have hc2 := Chg.of_grown hg2
      have hrow2 := row_chg HW.out hc2 (fun b hb hs => hown b hs hb)
      have hdj : ∀ i, i < cs.length → i ≠ j → ∀ b, (gv cs i).ownBlock = some b → ¬ (Value.slice A1 (gl xs j).length c1).ownBlock = some b := by
        intro i hi hne b hb hs
        have hd := HDIS.out i j hi hlt' hne
        rw [E1.out] at hd
        rcases hd with h1 | h1
        · rw [h1] at hb; cases hb
        · exact h1 (hb.trans hs.symm)
      have hol2 : OL 2 w2 lo cs (fun i => if i < j + 1 then gl (mkL k xs) i else gl xs i) := by
        intro i hi
        by_cases e : i = j
        · subst e
          dsimp only
          rw [if_pos (by omega), HAT.out, E1.out]
          exact ho2
        · have := (HO.out i hi).chg hc2 (hdj i hi e)
          dsimp only at this ⊢
          by_cases h3 : i < j
          · rw [if_pos h3] at this; rw [if_pos (by omega)]; exact this
          · rw [if_neg h3] at this; rw [if_neg (by omega)]; exact this
      have hch2 : Chg (InL cs) w w2 := HC.out.trans hc2 (fun _ h => h) (fun b hb => ⟨j, hlt', by rw [E1.out]; exact hb⟩)
      have HO2 := Lib.hid hol2
      have HW2 := Lib.hid hrow2
      have HC2 := Lib.hid hch2
      clear hol2 hrow2 hch2 hdj hc2 hown
      go_wp2
      go_roundw
      case rel => exact ⟨j + 1, r + (gl xs j).length, by omega, by go_num, rfl, by omega, by rw [HS.out, HR.out]; omega, HW2.out, HO2.out, HC2.out⟩
      case measure => simp [intOf]; omega
    · obtain rfl : j = n := by omega
      go_wp2
      go_ret
      refine ⟨ret_i (by rw [HR.out, List.take_of_length_le (by rw [HXS.out]; omega)]), HW.out, HO.out.congr (fun i hi => ?_), HC.out⟩
      rw [if_pos (by rw [HLEN.out] at hi; omega)]

set_option maxHeartbeats 400000 in
theorem heldGrid (A : Option Addr) (n c : Nat) (xs : List (List Int)) (k : Int) (w : World) (ho : RII w A n c (mkL k xs)) (hk0 : 0 ≤ k) (hk1 : k + tot xs ≤ 4611686018427387904) :
    Calls Tryd.prog 100 #[.slice A n c, .int .i64 k] w fun e w' => e = .returned (.int .i64 (k + tot xs)) ∧ Qt w w' := by
  have b1 := ho.cap; have b2 := ho.top
  have hxs : xs.length = n := by rw [← ho.len, mkL_len]
  have HXS := Lib.hid hxs
  clear hxs
  have htl := tot_le xs
  go_enter Tryd.func100, Tryd.ntmps100
  go_wp2
  go_loopw [1, 5] (fun s i wr => ∃ (j : Nat) (r : Int), j ≤ n ∧ i = .int .i64 j ∧ s = .int .i64 r ∧ 0 ≤ r ∧ r = k + tot (xs.take j) ∧ ∃ q, wr = w.drewN q) (fun _ i _ => n - (intOf i).toNat)
  case atStart => exact ⟨0, k, Nat.zero_le _, rfl, rfl, hk0, by simp [tot], 0, rfl⟩
  case round =>
    obtain ⟨j, r, hj, rfl, rfl, hr0, hr2, q, rfl⟩ := hrel
    have HR := Lib.hid hr2
    clear hr2
    by_cases hlt : j < n
    · obtain ⟨b, off, A1, n1, c1, rfl, hc, r1⟩ := ho.at_ hlt
      have hat := mkL_at xs k j (by rw [HXS.out]; exact hlt)
      rw [← HR.out] at hat
      rw [hat] at r1
      obtain rfl : n1 = (gl xs j).length := by rw [← r1.len, upto_len]
      have hsum : tot (xs.take (j + 1)) = tot (xs.take j) + (gl xs j).length := tot_take (by rw [HXS.out]; exact hlt)
      have HS := Lib.hid hsum
      have hle := htl (j + 1)
      have hkk : r + (gl xs j).length ≤ 4611686018427387904 := by have := HR.out; omega
      have hpos : 0 ≤ r + (gl xs j).length := by omega
      clear hat hsum hle
      go_wp2_with fail
      refine (heldInts _ _ _ _ _ (r1.keep (Qt.keeps ⟨_, rfl⟩)) hr0 hkk).mono ?_; rintro e w2 ⟨rfl, q2, rfl⟩
      go_wp2
      go_roundw
      case rel => exact ⟨j + 1, r + (gl xs j).length, by omega, by go_num, rfl, by omega, by rw [HS.out, HR.out]; omega, _, rfl⟩
      case measure => simp [intOf]; omega
    · obtain rfl : j = n := by omega
      go_wp2
      go_ret
      exact ⟨ret_i (by rw [HR.out, List.take_of_length_le (by rw [HXS.out]; omega)]), _, rfl⟩
end Go.Proofs.YtkhkdnmpbfmmeaaDoor
