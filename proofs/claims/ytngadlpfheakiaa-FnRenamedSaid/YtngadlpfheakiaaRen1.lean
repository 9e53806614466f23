/- Orders of vertices: where each stands (l14Where), the renamed game: plain. RenamedGame, impl. -/
import Derived.Test.YtngadlpfheakiaaParL
import Derived.Test.YtngadlpfheakiaaPlan
import Derived.Test.YtngadlpfheakiaaAcc
import Derived.Test.YtngadlpfheakiaaOftP
import Derived.Test.YtngadlpfheakiaaSort
import Derived.Test.YtngadlpfheakiaaGame2
import Derived.Test.YtngadlpfheakiaaMore
import Derived.Test.YtngadlpfheakiaaPut
import Derived.Test.YtngadlpfheakiaaUse
import Derived.Test.YtngadlpfheakiaaHand
import Derived.Test.YtngadlpfheakiaaCut
import Derived.Test.YtngadlpfheakiaaArena
import Derived.Test.YtngadlpfheakiaaArenaL
import Derived.Test.YtngadlpfheakiaaCopy
import Derived.Test.YtngadlpfheakiaaSearch
import Derived.IntWalk
import Derived.Test.YtngadlpfheakiaaVertex
namespace Go.Proofs.Ytngadlpfheakiaa
open Go.RowKit

def whereUp (od : List Int) (n : Nat) : Nat → List Int
  | 0 => negL n
  | k + 1 => (whereUp od n k).set (gi od k).toNat (k : Int)
theorem where_len (od : List Int) (n : Nat) : ∀ k, (whereUp od n k).length = n
  | 0 => fill_len _ _
  | k + 1 => by rw [whereUp, List.length_set, where_len od n k]
abbrev goodUp (od : List Int) (n k : Nat) : Prop := ∀ j, j < k → (0 ≤ gi od j ∧ gi od j < (n : Int)) ∧ gi (whereUp od n j) (gi od j).toNat < 0
theorem goodUp_zero (od : List Int) (n : Nat) : goodUp od n 0 := fun j hj => absurd hj (by omega)
theorem goodUp_succ {od : List Int} {n k : Nat} (h : goodUp od n k) (h1 : 0 ≤ gi od k ∧ gi od k < (n : Int)) (h2 : gi (whereUp od n k) (gi od k).toNat < 0) : goodUp od n (k + 1) := fun j hj => by
  by_cases e : j = k
  · subst e; exact ⟨h1, h2⟩
  · exact h j (by omega)
theorem where_at {od : List Int} {n : Nat} : ∀ {k : Nat}, goodUp od n k → ∀ u, u < n → 0 ≤ gi (whereUp od n k) u → ∃ j, j < k ∧ gi (whereUp od n k) u = (j : Int) ∧ gi od j = (u : Int)
  | 0, _, u, hu, h0 => by
    rw [whereUp, negL, fill_at hu] at h0
    omega
  | k + 1, hg, u, hu, h0 => by
    have hk := hg k (by omega)
    have hlt : (gi od k).toNat < (whereUp od n k).length := by rw [where_len]; omega
    rw [whereUp, gi_set hlt] at h0 ⊢
    by_cases e : (gi od k).toNat = u
    · rw [if_pos e]
      exact ⟨k, by omega, rfl, by omega⟩
    · rw [if_neg e] at h0 ⊢
      obtain ⟨j, h1, h2, h3⟩ := where_at (k := k) (fun j hj => hg j (by omega)) u hu h0
      exact ⟨j, by omega, h2, h3⟩
theorem where_negs {od : List Int} {n : Nat} : ∀ {k : Nat}, goodUp od n k → negs (whereUp od n k) + k ≤ n
  | 0, _ => by
    have := negs_le (whereUp od n 0)
    rw [where_len] at this
    omega
  | k + 1, hg => by
    have hk := hg k (by omega)
    have h1 := where_negs (k := k) (fun j hj => hg j (by omega))
    have h2 := negs_set (L := whereUp od n k) (k := (gi od k).toNat) (x := (k : Int)) (by rw [where_len]; omega) hk.2 (by omega)
    rw [whereUp]
    omega
theorem where_full {od : List Int} {n : Nat} (h : goodUp od n n) {u : Nat} (hu : u < n) : 0 ≤ gi (whereUp od n n) u := by
  have h1 := where_negs h
  have h2 : negs (whereUp od n n) = 0 := by omega
  unfold negs at h2
  rw [List.countP_eq_zero] at h2
  have h3 := h2 (gi (whereUp od n n) u) (gi_mem (by rw [where_len]; exact hu))
  simpa using h3
noncomputable def orderB (od : List Int) (n : Nat) : Bool := decide (od.length = n) && decide (goodUp od n n)
theorem order_len {od : List Int} {n : Nat} (h : ¬ od.length = n) : orderB od n = false := by unfold orderB; rw [decide_eq_false h]; rfl
theorem order_bad {od : List Int} {n : Nat} (h : ¬ goodUp od n n) : orderB od n = false := by unfold orderB; rw [decide_eq_false h, Bool.and_false]
theorem order_yes {od : List Int} {n : Nat} (h : od.length = n) (h2 : goodUp od n n) : orderB od n = true := by unfold orderB; rw [decide_eq_true h, decide_eq_true h2]; rfl
/-- the new successors, in the order of the old ones -/
def newNx (at_ row : List Int) : List Int := row.map fun u => gi at_ u.toNat
theorem newNx_len (at_ row : List Int) : (newNx at_ row).length = row.length := by simp [newNx]
theorem newNx_succ {at_ row : List Int} {k : Nat} (h : k < row.length) : newNx at_ (row.take (k + 1)) = newNx at_ (row.take k) ++ [gi at_ (gi row k).toNat] := by
  unfold newNx
  rw [take_gi h, List.map_append]; rfl
def renUpG (g : ParD) (od at_ : List Int) : Nat → ParD
  | 0 => ([], [], [])
  | k + 1 => addV (renUpG g od at_ k) (gi g.1 (gi od k).toNat) (gi g.2.2 (gi od k).toNat) (putsL (newNx at_ (gl g.2.1 (gi od k).toNat)))
theorem renUpG_len (g : ParD) (od at_ : List Int) : ∀ k, (renUpG g od at_ k).1.length = k ∧ (renUpG g od at_ k).2.1.length = k ∧ (renUpG g od at_ k).2.2.length = k
  | 0 => ⟨rfl, rfl, rfl⟩
  | k + 1 => by
    obtain ⟨h1, h2, h3⟩ := renUpG_len g od at_ k
    rw [renUpG]; unfold addV
    simp [h1, h2, h3]
theorem renUpG_small {g : ParD} {od at_ : List Int} {k : Nat} (h : k ≤ 256) : small (renUpG g od at_ k) := by
  obtain ⟨h1, h2, h3⟩ := renUpG_len g od at_ k
  unfold small
  refine ⟨?_, ?_, ?_⟩ <;> omega
noncomputable def okRen (g : ParD) (od : List Int) : Bool := parB g && orderB od g.2.2.length
noncomputable def renG (g : ParD) (od : List Int) : ParD := if okRen g od = true then renUpG g od (whereUp od g.2.2.length g.2.2.length) g.2.2.length else ([], [], [])
theorem okRen_no1 {g : ParD} {od : List Int} (h : parB g = false) : okRen g od = false := by unfold okRen; rw [h]; rfl
theorem okRen_no2 {g : ParD} {od : List Int} (h : orderB od g.2.2.length = false) : okRen g od = false := by unfold okRen; rw [h, Bool.and_false]
theorem okRen_yes {g : ParD} {od : List Int} (h : parB g = true) (h2 : orderB od g.2.2.length = true) : okRen g od = true := by unfold okRen; rw [h, h2]; rfl
theorem renG_no {g : ParD} {od : List Int} (h : okRen g od = false) : renG g od = ([], [], []) := by unfold renG; rw [h]; rfl
theorem renG_yes {g : ParD} {od : List Int} (h : okRen g od = true) : renG g od = renUpG g od (whereUp od g.2.2.length g.2.2.length) g.2.2.length := if_pos h
/-- distinct successors: sorted is put in one after the other -/
theorem sort_puts {xs : List Int} (h : xs.Nodup) : sortL xs = putsL xs := by
  obtain ⟨p1, p2⟩ := putsL_asc xs
  have hp : (sortL xs).Perm xs := by unfold sortL; exact List.mergeSort_perm _ _
  have hn : (sortL xs).Nodup := hp.nodup_iff.2 h
  refine asc_ext ?_ p1 fun z => by rw [sortL_mem, p2]
  have h1 := sortL_pair xs
  unfold List.Nodup at hn
  exact (h1.and hn).imp fun ⟨h2, h3⟩ => by omega
theorem newNx_nodup {od row : List Int} {n : Nat} (h : goodUp od n n) (hr : row.Pairwise (· < ·)) (hb : ∀ x, x ∈ row → 0 ≤ x ∧ x < (n : Int)) : (newNx (whereUp od n n) row).Nodup := by
  unfold newNx List.Nodup
  rw [List.pairwise_map]
  refine (hr.imp_of_mem ?_)
  intro a b ha hb2 hlt e
  have h1 := hb a ha; have h2 := hb b hb2
  obtain ⟨i, _, hi1, hi2⟩ := where_at h a.toNat (by omega) (where_full h (by omega))
  obtain ⟨j, _, hj1, hj2⟩ := where_at h b.toNat (by omega) (where_full h (by omega))
  have hij : i = j := by omega
  subst hij
  omega
theorem newNx_sort {g : ParD} {od : List Int} {v : Nat} (hg : parB g = true) (h : goodUp od g.2.2.length g.2.2.length) (hv : v < g.2.2.length) : sortL (newNx (whereUp od g.2.2.length g.2.2.length) (gl g.2.1 v)) = putsL (newNx (whereUp od g.2.2.length g.2.2.length) (gl g.2.1 v)) := by
  have hf := finePar_of hg
  have h2 := hf.1.2.2.1; have h3 := hf.2.1
  have hrow := (hf.1.2.2.2 v (by omega)).2.2
  rw [show g.1.length = g.2.2.length by omega] at hrow
  exact sort_puts (newNx_nodup h (rises_pair.1 (rises_set hrow)) fun x hx => set_mem hrow hx)
end Go.Proofs.Ytngadlpfheakiaa
namespace Go.Proofs.Ytngadlpfheakiaa
open Go.RowKit

def thereC (v : Int) (n : Nat) : Bool := decide (0 ≤ v ∧ v < (n : Int))
set_option maxRecDepth 100000 in
theorem hasVertexC (A0 A1 : Option Addr) (n0 c0 n1 c1 : Nat) (v : Int) (w : World) (B : Nat) (hB : B ≤ w.heap.size) (hn0 : n0 ≤ 256) :
    Calls Try.prog 47 #[.agg #[.slice A0 n0 c0, .slice A1 n1 c1], .int .i64 v] w fun e w' => e = .returned (.bool (thereC v n0)) ∧ Below B w w' := by
  have hba : Below w.heap.size w (w.alloc (.cells #[.slice A0 n0 c0, .slice A1 n1 c1] 30)) := below_alloc (Nat.le_refl _) (Below.refl _ _)
  have q0 := (Box.new w 30 #[.slice A0 n0 c0, .slice A1 n1 c1]).d0
  have q1 := (Box.new w 30 #[.slice A0 n0 c0, .slice A1 n1 c1]).d1
  by_cases h0 : 0 ≤ v
  · by_cases h1 : v < (n0 : Int)
    · have E := Lib.hid (show thereC v n0 = true from decide_eq_true ⟨h0, h1⟩)
      go_enter Try.func47, Try.ntmps47
      go_wp2
      go_ret
      exact ⟨ret_b E.out.symm, by first | exact below_alloc (Nat.le_trans hB (by simp)) (hba.mono hB) | exact hba.mono hB⟩
    · have E := Lib.hid (show thereC v n0 = false from decide_eq_false fun h => h1 h.2)
      go_enter Try.func47, Try.ntmps47
      go_wp2
      go_ret
      exact ⟨ret_b E.out.symm, by first | exact below_alloc (Nat.le_trans hB (by simp)) (hba.mono hB) | exact hba.mono hB⟩
  · have E := Lib.hid (show thereC v n0 = false from decide_eq_false fun h => h0 h.1)
    go_enter Try.func47, Try.ntmps47
    go_wp2
    go_ret
    exact ⟨ret_b E.out.symm, by first | exact below_alloc (Nat.le_trans hB (by simp)) (hba.mono hB) | exact hba.mono hB⟩

set_option maxRecDepth 100000 in
set_option maxHeartbeats 3200000 in
theorem implRenamed (s0 s1 s2 : Value) (g : ParD) (C : Option Addr) (m d : Nat) (od : List Int) (w : World) (B : Nat) (hB : B ≤ w.heap.size) (ha : RPv w s0 s1 s2 g) (hi : RI w C m d od) :
    Calls Try.prog 11 #[.agg #[s0, s1, s2], .slice C m d] w fun e w' => ∃ t0 t1 t2, e = .returned (.tuple #[.agg #[t0, t1, t2], .bool (okRen g od)]) ∧ OPar w' B t0 t1 t2 (renG g od) ∧ Below B w w' := by
  have har := ha
  obtain ⟨A0, n0, c0, A1, n1, c1, A2, n2, c2, rfl, rfl, rfl⟩ := ha.form
  have hr := ha.ri; have hrr := ha.rii; have hrp := ha.rp
  have b1 := hr.cap; have b2 := hr.top; have b3 := hrr.cap; have b4 := hrr.top; have b5 := hrp.cap; have b6 := hrp.top; have b7 := hi.cap; have b8 := hi.top
  have HL := Lib.hid hr.len; have HM := Lib.hid hrr.len; have HP := Lib.hid hrp.len; have HD := Lib.hid hi.len
  have hwL : Below w.heap.size w ((w.alloc (.cells #[.slice A0 n0 c0, .slice A1 n1 c1, .slice A2 n2 c2] 32)).alloc (.cells #[.slice none 0 0, .slice none 0 0, .slice none 0 0] 32)) := below_alloc (Nat.le_refl _) (below_alloc (Nat.le_refl _) (Below.refl _ _))
  have bxL := (Box.new w 32 #[.slice A0 n0 c0, .slice A1 n1 c1, .slice A2 n2 c2]).alloc (.cells #[.slice none 0 0, .slice none 0 0, .slice none 0 0] 32)
  have brL : Box ((w.alloc (.cells #[.slice A0 n0 c0, .slice A1 n1 c1, .slice A2 n2 c2] 32)).alloc (.cells #[.slice none 0 0, .slice none 0 0, .slice none 0 0] 32)) (w.heap.size + 1) 32 #[.slice none 0 0, .slice none 0 0, .slice none 0 0] := Box.new' (by simp)
  have q0 : ((w.alloc (.cells #[.slice A0 n0 c0, .slice A1 n1 c1, .slice A2 n2 c2] 32)).alloc (.cells #[.slice none 0 0, .slice none 0 0, .slice none 0 0] 32)).cell? ⟨w.heap.size, 0, none⟩ = some (.slice A0 n0 c0) := bxL.cell 0; have q1 : ((w.alloc (.cells #[.slice A0 n0 c0, .slice A1 n1 c1, .slice A2 n2 c2] 32)).alloc (.cells #[.slice none 0 0, .slice none 0 0, .slice none 0 0] 32)).cell? ⟨w.heap.size, 1, none⟩ = some (.slice A1 n1 c1) := bxL.cell 1; have q2 : ((w.alloc (.cells #[.slice A0 n0 c0, .slice A1 n1 c1, .slice A2 n2 c2] 32)).alloc (.cells #[.slice none 0 0, .slice none 0 0, .slice none 0 0] 32)).cell? ⟨w.heap.size, 2, none⟩ = some (.slice A2 n2 c2) := bxL.cell 2
  cases hp : parB g with
  | false =>
    have E := Lib.hid (okRen_no1 (od := od) hp)
    have E2 := Lib.hid (renG_no E.out)
    have HPB := Lib.hid hp
    clear hp
    go_enter Try.func11, Try.ntmps11
    go_wp2_with fail
    refine (implParityOk _ _ _ g _ _ (Nat.le_refl _) (har.keep (keeps_below hwL))).mono ?_; rintro e w1 ⟨rfl, hb1⟩
    rw [HPB.out]
    have hw1 := below_then hb1 hwL.size hwL
    have br1 := brL.on hb1
    clear q0 q1 q2 bxL brL hwL
    have z0 : w1.cell? ⟨w.heap.size + 1, 0, none⟩ = some (.slice none 0 0) := br1.cell 0; have f0 := br1.hot 0; have z1 : w1.cell? ⟨w.heap.size + 1, 1, none⟩ = some (.slice none 0 0) := br1.cell 1; have f1 := br1.hot 1; have z2 : w1.cell? ⟨w.heap.size + 1, 2, none⟩ = some (.slice none 0 0) := br1.cell 2; have f2 := br1.hot 2
    go_wp2
    obtain ⟨hwZ, bxZ⟩ := zero3 hw1 (by omega) br1 (.slice none 0 0) (.slice none 0 0) (.slice none 0 0)
    have R0 := bxZ.cell 0; have R1 := bxZ.cell 1; have R2 := bxZ.cell 2
    simp only [List.getElem?_toArray, List.getElem?_cons_zero, List.getElem?_cons_succ] at R0 R1 R2
    exact bodyPost_ret (v := .tuple #[.agg #[.slice none 0 0, .slice none 0 0, .slice none 0 0], .bool false]) (by simp [results, Try.results11, go_sem, R0, R1, R2]) rfl ⟨_, _, _, by rw [E.out], by rw [E2.out]; exact OPar.nil _ _, hwZ.mono hB⟩
  | true =>
    have HPB := Lib.hid hp
    have hf := finePar_of hp
    have hn0 := hf.1.2.1; have hn1 := hf.1.2.2.1; have hn2 := hf.2.1; have hn3 := hf.1.1
    rw [HL.out] at hn0 hn1 hn2 hn3
    rw [HM.out] at hn1
    rw [HP.out] at hn2
    have HF := Lib.hid hf
    have H10 := Lib.hid hn1; have H20 := Lib.hid hn2
    clear hp hf
    have hnn1 : 1 ≤ n2 := by omega
    have hnn2 : n2 ≤ 256 := by omega
    clear hn1 hn2
    by_cases hmn : m = n2
    · subst hmn
      go_enter Try.func11, Try.ntmps11
      go_wp2_with fail
      refine (implParityOk _ _ _ g _ _ (Nat.le_refl _) (har.keep (keeps_below hwL))).mono ?_; rintro e w1 ⟨rfl, hb1⟩
      rw [HPB.out]
      have bx1 := bxL.on hb1; have br1 := brL.on hb1
      have hw1 := below_then hb1 hwL.size hwL
      clear q0 q1 q2 bxL brL hwL hb1
      have q0 : w1.cell? ⟨w.heap.size, 0, none⟩ = some (.slice A0 n0 c0) := bx1.cell 0; have q1 : w1.cell? ⟨w.heap.size, 1, none⟩ = some (.slice A1 n1 c1) := bx1.cell 1; have q2 : w1.cell? ⟨w.heap.size, 2, none⟩ = some (.slice A2 m c2) := bx1.cell 2
      go_wp2_with fail
      refine (noPlan _ _ _ _ _ _ _ _ (Nat.le_refl _) (by omega)).mono ?_; rintro e w2 ⟨vA, rfl, hoA, hb2⟩
      have bx2 := bx1.on hb2; have br2 := br1.on hb2
      have hw2 := below_then hb2 hw1.size hw1
      rw [← H20.out] at hoA
      have hal : (negL m).length = m := fill_len _ _
      obtain ⟨ga, ca, e1⟩ := hoA.form2 (by rw [hal]; exact hnn1)
      rw [hal] at e1
      subst e1
      clear hal
      have hga := (hoA.lt ga rfl)
      have hga1 := hga.1; have hga2 := hga.2
      have bca := hoA.reads.cap; have bct := hoA.reads.top
      have hlx := bx1.lt
      have hlr := br1.lt
      clear hga q0 q1 q2 bx1 br1 hw1 hb2
      go_wp2
      go_loopw [32] (fun i wr => ∃ k : Nat, k ≤ m ∧ i = .int .i64 k ∧ goodUp od m k ∧ OI 2 wr w1.heap.size (.slice (some ⟨ga, 0, none⟩) m ca) (whereUp od m k) ∧ Box wr w.heap.size 32 #[.slice A0 n0 c0, .slice A1 n1 c1, .slice A2 m c2] ∧ Box wr (w.heap.size + 1) 32 #[.slice none 0 0, .slice none 0 0, .slice none 0 0] ∧ Below w.heap.size w wr) (fun i _ => m - (intOf i).toNat)
      case atStart => exact ⟨0, Nat.zero_le _, rfl, goodUp_zero _ _, hoA, bx2, br2, hw2⟩
      case round =>
        clear hoA bx2 br2 hw2
        obtain ⟨k, hk, rfl, hg, ho, hX, hZ, hwr⟩ := hrel
        have HG := Lib.hid hg
        clear hg
        have q0 : wr.cell? ⟨w.heap.size, 0, none⟩ = some (.slice A0 n0 c0) := hX.cell 0; have q1 : wr.cell? ⟨w.heap.size, 1, none⟩ = some (.slice A1 n1 c1) := hX.cell 1; have q2 : wr.cell? ⟨w.heap.size, 2, none⟩ = some (.slice A2 m c2) := hX.cell 2
        by_cases hlt : k < m
        · obtain ⟨bd, od_, rfl, hcd⟩ := (hi.keep (keeps_below hwr)).at_ hlt
          have hki : (k : Int) < (m : Int) := by omega
          have hk0 : (0 : Int) ≤ (k : Int) := by omega
          by_cases hin : 0 ≤ gi od k ∧ gi od k < (m : Int)
          · obtain ⟨v, hv⟩ := Int.eq_ofNat_of_zero_le hin.1
            have hvm : v < m := by omega
            have HIN := Lib.hid (show thereC (v : Int) n0 = true from decide_eq_true (by have := H20.out; omega))
            have HIR := Lib.hid hin
            rw [hv] at hcd
            have HV := Lib.hid hv
            clear hv hin
            go_wp2_with fail
            refine (hasVertexC _ _ _ _ _ _ (v : Int) _ _ (Nat.le_refl _) hn0).mono ?_; rintro e w3 ⟨rfl, hb3⟩
            rw [HIN.out]
            have ho3 := ho.below hb3
            have hX3 := hX.on hb3; have hZ3 := hZ.on hb3
            have hw3 := below_then hb3 hwr.size hwr
            have hcm := ho3.cellAt (i := v) (by rw [where_len]; exact hvm)
            have hfz := ho3.hot (i := v) (by rw [where_len])
            have hvi : (v : Int) < (m : Int) := by omega
            have hv0 : (0 : Int) ≤ (v : Int) := by omega
            clear ho q0 q1 q2
            by_cases hneg : gi (whereUp od m k) v < 0
            · have hnn : ¬ 0 ≤ gi (whereUp od m k) v := by omega
              have HX := Lib.hid (show whereUp od m (k + 1) = (whereUp od m k).set v (k : Int) by rw [whereUp, HV.out]; simp)
              have HG2 := Lib.hid (goodUp_succ HG.out HIR.out (by rw [HV.out]; simpa using hneg))
              have HO := Lib.hid ho3
              clear ho3
              go_wp2
              go_roundw
              case rel => exact ⟨k + 1, by omega, by go_num, HG2.out, by rw [HX.out]; exact HO.out.set_ (by rw [where_len]) (k : Int), hX3.far (by show w.heap.size ≠ ga; omega) _, hZ3.far (by show w.heap.size + 1 ≠ ga; omega) _, below_set (by show w.heap.size ≤ ga; omega) hw3⟩
              case measure => simp [intOf]; omega
            · have hnn : 0 ≤ gi (whereUp od m k) v := by omega
              have E := Lib.hid (okRen_no2 (g := g) (od := od) (by rw [HP.out]; exact order_bad fun h => by have h3 := (h k hlt).2; rw [HV.out] at h3; exact hneg (by simpa using h3)))
              have E2 := Lib.hid (renG_no E.out)
              clear ho3 hneg
              have z0 : w3.cell? ⟨w.heap.size + 1, 0, none⟩ = some (.slice none 0 0) := hZ3.cell 0; have f0 := hZ3.hot 0; have z1 : w3.cell? ⟨w.heap.size + 1, 1, none⟩ = some (.slice none 0 0) := hZ3.cell 1; have f1 := hZ3.hot 1; have z2 : w3.cell? ⟨w.heap.size + 1, 2, none⟩ = some (.slice none 0 0) := hZ3.cell 2; have f2 := hZ3.hot 2
              go_wp2
              obtain ⟨hwZ, bxZ⟩ := zero3 hw3 (by omega) hZ3 (.slice none 0 0) (.slice none 0 0) (.slice none 0 0)
              have R0 := bxZ.cell 0; have R1 := bxZ.cell 1; have R2 := bxZ.cell 2
              simp only [List.getElem?_toArray, List.getElem?_cons_zero, List.getElem?_cons_succ] at R0 R1 R2
              exact bodyPost_ret (v := .tuple #[.agg #[.slice none 0 0, .slice none 0 0, .slice none 0 0], .bool false]) (by simp [results, Try.results11, go_sem, R0, R1, R2]) rfl ⟨_, _, _, by rw [E.out], by rw [E2.out]; exact OPar.nil _ _, hwZ.mono hB⟩
          · have HIN := Lib.hid (show thereC (gi od k) n0 = false from decide_eq_false (by have := H20.out; omega))
            have E := Lib.hid (okRen_no2 (g := g) (od := od) (by rw [HP.out]; exact order_bad fun h => hin (h k hlt).1))
            have E2 := Lib.hid (renG_no E.out)
            clear hin
            go_wp2_with fail
            refine (hasVertexC _ _ _ _ _ _ (gi od k) _ _ (Nat.le_refl _) hn0).mono ?_; rintro e w3 ⟨rfl, hb3⟩
            rw [HIN.out]
            have hZ3 := hZ.on hb3
            have hw3 := below_then hb3 hwr.size hwr
            clear ho
            have z0 : w3.cell? ⟨w.heap.size + 1, 0, none⟩ = some (.slice none 0 0) := hZ3.cell 0; have f0 := hZ3.hot 0; have z1 : w3.cell? ⟨w.heap.size + 1, 1, none⟩ = some (.slice none 0 0) := hZ3.cell 1; have f1 := hZ3.hot 1; have z2 : w3.cell? ⟨w.heap.size + 1, 2, none⟩ = some (.slice none 0 0) := hZ3.cell 2; have f2 := hZ3.hot 2
            go_wp2
            obtain ⟨hwZ, bxZ⟩ := zero3 hw3 (by omega) hZ3 (.slice none 0 0) (.slice none 0 0) (.slice none 0 0)
            have R0 := bxZ.cell 0; have R1 := bxZ.cell 1; have R2 := bxZ.cell 2
            simp only [List.getElem?_toArray, List.getElem?_cons_zero, List.getElem?_cons_succ] at R0 R1 R2
            exact bodyPost_ret (v := .tuple #[.agg #[.slice none 0 0, .slice none 0 0, .slice none 0 0], .bool false]) (by simp [results, Try.results11, go_sem, R0, R1, R2]) rfl ⟨_, _, _, by rw [E.out], by rw [E2.out]; exact OPar.nil _ _, hwZ.mono hB⟩
        · obtain rfl : k = m := by omega
          obtain ⟨wz, rfl⟩ : ∃ wz : World, wz = wr := ⟨_, rfl⟩
          obtain ⟨m, rfl⟩ : ∃ m : Nat, m = k := ⟨_, rfl⟩
          have hor := order_yes (od := od) (n := m) HD.out HG.out
          have E := Lib.hid (okRen_yes HPB.out (od := od) (by rw [HP.out]; exact hor))
          have E2 := Lib.hid (show renG g od = renUpG g od (whereUp od m m) m by rw [renG_yes E.out, HP.out])
          have HAW := Lib.hid (where_len od m m)
          have HSO := Lib.hid (show ∀ v, v < m → sortL (newNx (whereUp od m m) (gl g.2.1 v)) = putsL (newNx (whereUp od m m) (gl g.2.1 v)) from fun v hv => by
            have h5 := newNx_sort (od := od) (v := v) HPB.out (by rw [HP.out]; exact HG.out) (by rw [HP.out]; exact hv)
            rw [HP.out] at h5
            exact h5)
          clear hor
          generalize whereUp od m m = at_ at *
          have hoA := ho
          have hga3 := (ho.lt ga rfl).2
          have hGS : GSx (wz.heap.size + 1) w (wz.alloc (.cells #[.slice none 0 0, .slice none 0 0, .slice none 0 0] 32)) (w.heap.size + 1) wz.heap.size (.slice none 0 0) (.slice none 0 0) (.slice none 0 0) (renUpG g od at_ 0) := GSx.start hwr (Nat.le_succ _) hZ
          have hcS : Chg (fun y => y = wz.heap.size) wz (wz.alloc (.cells #[.slice none 0 0, .slice none 0 0, .slice none 0 0] 32)) := (Chg.refl _ _).alloc _
          have hXz := hX.lt
          clear ho q0 q1 q2
          have hX2 := hX
          clear hX
          go_wp2
          go_loopw [58] (fun i wr => ∃ (k : Nat) (u0 u1 u2 : Value), k ≤ m ∧ i = .int .i64 k ∧ GSx (wz.heap.size + 1) w wr (w.heap.size + 1) wz.heap.size u0 u1 u2 (renUpG g od at_ k) ∧ Chg (fun y => y = wz.heap.size) wz wr) (fun i _ => m - (intOf i).toNat)
          case atStart => exact ⟨0, _, _, _, Nat.zero_le _, rfl, hGS, hcS⟩
          case round =>
            clear hGS hcS hwr
            obtain ⟨k, u0, u1, u2, hk, rfl, hG, hC⟩ := hrel
            obtain ⟨wo, rfl⟩ : ∃ wo : World, wo = wr := ⟨_, rfl⟩
            have hwo := hG.below
            have hsz := hG.size
            have hX : Box wo w.heap.size 32 #[.slice A0 n0 c0, .slice A1 n1 c1, .slice A2 m c2] := (hC.block _ hXz (fun e => by have h3 : w.heap.size = wz.heap.size := e; omega)).trans hX2
            have hoR := hoA.chg hC (fun y hy e => by have h3 : y = wz.heap.size := e; have h4 : some ga = some y := hy; injection h4 with h4; omega)
            have q0 : wo.cell? ⟨w.heap.size, 0, none⟩ = some (.slice A0 n0 c0) := hX.cell 0; have q1 : wo.cell? ⟨w.heap.size, 1, none⟩ = some (.slice A1 n1 c1) := hX.cell 1; have q2 : wo.cell? ⟨w.heap.size, 2, none⟩ = some (.slice A2 m c2) := hX.cell 2
            obtain ⟨U0, v0, U1, v1, U2, v2, rfl, rfl, rfl⟩ := hG.own.form
            by_cases hlt : k < m
            · obtain ⟨bd, od_, rfl, hcd⟩ := (hi.keep (keeps_below hwo)).at_ hlt
              have hbd := (HG.out k hlt).1
              obtain ⟨v, hv⟩ := Int.eq_ofNat_of_zero_le hbd.1
              rw [hv] at hcd hbd
              have HV := Lib.hid hv
              clear hv
              have hvm : v < m := by omega
              have hlt0 : v < n0 := by have := H20.out; omega
              have hlt1 : v < n1 := by have := H10.out; have := H20.out; omega
              clear hbd
              obtain ⟨bo, oo, rfl, hco⟩ := hr.at_ hlt0
              obtain ⟨bn, on, An, nn, cn, rfl, hcn, rn⟩ := hrr.at_ hlt1
              obtain ⟨bp, op, rfl, hcp⟩ := hrp.at_ hvm
              have lo_ := cell_lt hco; have lp_ := cell_lt hcp
              have ko := below_cell hwo hco; have kn := below_cell hwo hcn; have kp := below_cell hwo hcp
              have x1 : ¬ wz.heap.size = bo := by omega
              have x2 : ¬ wz.heap.size = bp := by omega
              have x3 : ¬ wz.heap.size = w.heap.size := by omega
              have hki : (k : Int) < (m : Int) := by omega
              have hk0 : (0 : Int) ≤ (k : Int) := by omega
              have hvi : (v : Int) < (m : Int) := by omega
              have hvi0 : (v : Int) < (n0 : Int) := by omega
              have hvi1 : (v : Int) < (n1 : Int) := by omega
              have hv0 : (0 : Int) ≤ (v : Int) := by omega
              have HRW := Lib.hid (HF.out.1.2.2.2 v (by rw [HL.out]; exact hlt0)).2
              have HNN := Lib.hid rn.len
              have hnn : nn ≤ 16 := by have := HRW.out.1.2; rw [rn.len] at this; exact this
              have hnn0 : 1 ≤ nn := by have := HRW.out.1.1; rw [rn.len] at this; exact this
              have c1' := rn.cap; have c2' := rn.top
              have hem := OI.empty (E := 2) (w := wo) (B := wo.heap.size) (Nat.le_refl _)
              have hbE : Below wo.heap.size wo (wo.alloc (.cells #[] 2)) := below_alloc (Nat.le_refl _) (Below.refl _ _)
              have HN := Lib.hid (show renUpG g od at_ (k + 1) = (addV (renUpG g od at_ k) (gi g.1 v) (gi g.2.2 v) (putsL (newNx at_ (gl g.2.1 v)))) by rw [renUpG, HV.out]; simp)
              have q1a : (wo.alloc (.cells #[] 2)).cell? ⟨w.heap.size, 1, none⟩ = some (.slice (some ⟨bn, on, none⟩) n1 c1) := keepA q1
              have kna : (wo.alloc (.cells #[] 2)).cell? ⟨bn, on + v, none⟩ = some (.slice An nn cn) := keepA kn
              go_wp2
              go_loopw [12, 70] (fun u i wr => ∃ j : Nat, j ≤ nn ∧ i = .int .i64 j ∧ OI 2 wr wo.heap.size u (newNx at_ ((gl g.2.1 v).take j)) ∧ Below wo.heap.size wo wr) (fun _ i _ => nn - (intOf i).toNat)
              case atStart => exact ⟨0, Nat.zero_le _, rfl, by rw [List.take_zero]; exact hem, hbE⟩
              case round =>
                clear hem hbE q1a kna
                obtain ⟨j, hj, rfl, ho, hbr⟩ := hrel
                have hXr := hX.on hbr
                have hwr := below_then hbr hwo.size hwo
                clear q0 q1 q2 kn hcd
                have q0 : wr.cell? ⟨w.heap.size, 0, none⟩ = some (.slice (some ⟨bo, oo, none⟩) n0 c0) := hXr.cell 0; have q1 : wr.cell? ⟨w.heap.size, 1, none⟩ = some (.slice (some ⟨bn, on, none⟩) n1 c1) := hXr.cell 1; have q2 : wr.cell? ⟨w.heap.size, 2, none⟩ = some (.slice (some ⟨bp, op, none⟩) m c2) := hXr.cell 2
                have hpl := newNx_len at_ ((gl g.2.1 v).take j)
                rw [List.length_take] at hpl
                have hpl2 : (newNx at_ ((gl g.2.1 v).take j)).length ≤ 16 := by omega
                clear hpl
                by_cases hjl : j < nn
                · obtain ⟨br, ore, rfl, hcr⟩ := (rn.keep (keeps_below hwr)).at_ hjl
                  have hrb := set_mem HRW.out.2 (gi_mem (xs := gl g.2.1 v) (i := j) (by rw [HNN.out]; exact hjl))
                  obtain ⟨u, hu⟩ := Int.eq_ofNat_of_zero_le hrb.1
                  have hum : u < m := by have := H20.out; have h8 := hrb.2; rw [HL.out] at h8; omega
                  rw [hu] at hcr
                  have HNX := Lib.hid (show newNx at_ ((gl g.2.1 v).take (j + 1)) = newNx at_ ((gl g.2.1 v).take j) ++ [gi at_ u] by rw [newNx_succ (by rw [HNN.out]; exact hjl), hu]; simp)
                  have hca := (hoR.below hbr).cellAt (i := u) (by rw [HAW.out]; exact hum)
                  have hui : (u : Int) < (m : Int) := by omega
                  have hu0 : (0 : Int) ≤ (u : Int) := by omega
                  have hji : (j : Int) < (nn : Int) := by omega
                  have hj0 : (0 : Int) ≤ (j : Int) := by omega
                  have hszr := hbr.size
                  clear hrb hu
                  go_wp2_with (at_builtin; refine wpList_pushI rfl (.tmp 74) (.tmp 79) rfl _ wo.heap.size u12 (newNx at_ ((gl g.2.1 v).take j)) (by rfl) ho _ (by rfl) (by omega) hszr ?_; intro vn wn hon hbn hcn hatn)
                  go_wp2
                  go_roundw
                  case rel => exact ⟨j + 1, by omega, by go_num, by rw [HNX.out]; exact hon, hbr.trans hbn⟩
                  case measure => simp [intOf]; omega
                · obtain rfl : j = nn := by omega
                  rw [List.take_of_length_le (by rw [HNN.out]; exact Nat.le_refl _)] at ho hpl2
                  obtain ⟨g1, c1s, e1⟩ := ho.form2 (by rw [newNx_len, HNN.out]; exact hnn0)
                  subst e1
                  have hg1 := (ho.lt g1 rfl).1
                  have hszr := hbr.size
                  go_wp2_with fail
                  refine (slicesSort _ ho (by omega)).mono ?_; rintro e ws ⟨rfl, hos, hcs⟩
                  rw [HSO.out v hvm] at hos
                  have hbs : Below wo.heap.size wo ws := hbr.trans (hcs.below hszr (fun x hx => by have h3 : x = g1 := hx; omega))
                  have hXs := hX.on hbs
                  have hws := below_then hbs hwo.size hwo
                  have hGs := hG.move hbs
                  clear q0 q1 q2
                  have q0 : ws.cell? ⟨w.heap.size, 0, none⟩ = some (.slice (some ⟨bo, oo, none⟩) n0 c0) := hXs.cell 0; have q1 : ws.cell? ⟨w.heap.size, 1, none⟩ = some (.slice (some ⟨bn, on, none⟩) n1 c1) := hXs.cell 1; have q2 : ws.cell? ⟨w.heap.size, 2, none⟩ = some (.slice (some ⟨bp, op, none⟩) m c2) := hXs.cell 2
                  have S0 := hGs.c0; have S1 := hGs.c1; have S2 := hGs.c2
                  have ko := below_cell hws hco; have kp := below_cell hws hcp
                  have hbD : Below wo.heap.size wo ws.drew := Below.drew hbs
                  have hoD := hos.drew
                  go_wp2_with fail
                  refine wp_region_held_drew (S := (fun w' => w'.cell? ⟨w.heap.size, 0, none⟩ = some (.slice (some ⟨bo, oo, none⟩) n0 c0) ∧ w'.cell? ⟨w.heap.size, 2, none⟩ = some (.slice (some ⟨bp, op, none⟩) m c2) ∧ w'.cell? ⟨bo, oo + v, none⟩ = some (.int .i64 (gi g.1 v)) ∧ w'.cell? ⟨bp, op + v, none⟩ = some (.int .i64 (gi g.2.2 v)))) (by kernel_rfl) (⟨q0, q2, ko, kp⟩) (fun hHeld => ?_)
                  refine takeH1 (v := ?_) (by kernel_rfl) (by kernel_rfl) (by kernel_rfl) (fun _ _ _ h => h) hHeld (by rfl) ?_ ?_
                  rotate_left; · (intro w hSw; (try dsimp only at hSw); go_simp; try with_reducible rfl)
                  try simp only [Act.put, List.setIfInBounds_toArray, List.set_cons_zero, List.set_cons_succ]
                  refine takeH2 (v := ?_) (by kernel_rfl) (by kernel_rfl) (by kernel_rfl) (fun _ _ _ h => h) hHeld (by rfl) ?_ ?_
                  rotate_left; · (intro w hSw; (try dsimp only at hSw); go_simp; try with_reducible rfl)
                  try simp only [Act.put, List.setIfInBounds_toArray, List.set_cons_zero, List.set_cons_succ]
                  refine takeH3 (v := ?_) (by kernel_rfl) (by kernel_rfl) (by kernel_rfl) (fun _ _ _ h => h) hHeld (by rfl) ?_ ?_
                  rotate_left; · (intro w hSw; (try dsimp only at hSw); go_simp; try with_reducible rfl)
                  try simp only [Act.put, List.setIfInBounds_toArray, List.set_cons_zero, List.set_cons_succ]
                  refine takeH4 (v := ?_) (by kernel_rfl) (by kernel_rfl) (by kernel_rfl) (fun _ _ _ h => h) hHeld (by rfl) ?_ ?_
                  rotate_left; · (intro w hSw; (try dsimp only at hSw); go_simp; try with_reducible rfl)
                  try simp only [Act.put, List.setIfInBounds_toArray, List.set_cons_zero, List.set_cons_succ]
                  refine takeH5 (v := ?_) (by kernel_rfl) (by kernel_rfl) (by kernel_rfl) (fun _ _ _ h => h) hHeld (by rfl) ?_ ?_
                  rotate_left; · (intro w hSw; (try dsimp only at hSw); go_simp; try with_reducible rfl)
                  try simp only [Act.put, List.setIfInBounds_toArray, List.set_cons_zero, List.set_cons_succ]
                  refine takeH6 (v := ?_) (by kernel_rfl) (by kernel_rfl) (by kernel_rfl) (fun _ _ _ h => h) hHeld (by rfl) ?_ ?_
                  rotate_left; · (intro w hSw; (try dsimp only at hSw); go_simp; try with_reducible rfl)
                  try simp only [Act.put, List.setIfInBounds_toArray, List.set_cons_zero, List.set_cons_succ]
                  refine takeH7 (v := ?_) (by kernel_rfl) (by kernel_rfl) (by kernel_rfl) (fun _ _ _ h => h) hHeld (by rfl) ?_ ?_
                  rotate_left; · (intro w hSw; (try dsimp only at hSw); go_simp; try with_reducible rfl)
                  try simp only [Act.put, List.setIfInBounds_toArray, List.set_cons_zero, List.set_cons_succ]
                  refine takeH8 (v := ?_) (by kernel_rfl) (by kernel_rfl) (by kernel_rfl) (fun _ _ _ h => h) hHeld (by rfl) ?_ ?_
                  rotate_left; · (intro w hSw; (try dsimp only at hSw); go_simp; try with_reducible rfl)
                  try simp only [Act.put, List.setIfInBounds_toArray, List.set_cons_zero, List.set_cons_succ]
                  refine takeH9 (v := ?_) (by kernel_rfl) (by kernel_rfl) (by kernel_rfl) (fun _ _ _ h => h) hHeld (by rfl) ?_ ?_
                  rotate_left; · (intro w hSw; (try dsimp only at hSw); go_simp; try with_reducible rfl)
                  try simp only [Act.put, List.setIfInBounds_toArray, List.set_cons_zero, List.set_cons_succ]
                  refine takeH10 (v := ?_) (by kernel_rfl) (by kernel_rfl) (by kernel_rfl) (fun _ _ _ h => h) hHeld (by rfl) ?_ ?_
                  rotate_left; · (intro w hSw; (try dsimp only at hSw); go_simp; try with_reducible rfl)
                  try simp only [Act.put, List.setIfInBounds_toArray, List.set_cons_zero, List.set_cons_succ]
                  refine takeH11 (v := ?_) (by kernel_rfl) (by kernel_rfl) (by kernel_rfl) (fun _ _ _ h => h) hHeld (by rfl) ?_ ?_
                  rotate_left; · (intro w hSw; (try dsimp only at hSw); go_simp; try with_reducible rfl)
                  try simp only [Act.put, List.setIfInBounds_toArray, List.set_cons_zero, List.set_cons_succ]
                  refine takeH12 (v := ?_) (by kernel_rfl) (by kernel_rfl) (by kernel_rfl) (fun _ _ _ h => h) hHeld (by rfl) ?_ ?_
                  rotate_left; · (intro w hSw; (try dsimp only at hSw); go_simp; try with_reducible rfl)
                  try simp only [Act.put, List.setIfInBounds_toArray, List.set_cons_zero, List.set_cons_succ]
                  refine callH0 (by kernel_rfl) (fun K hK => ?_)
                  go_simp
                  refine hK.out _ _ (⟨q0, q2, ko, kp⟩) (fun hHeld => ?_)
                  clear hK K
                  try simp only [Act.put, List.setIfInBounds_toArray, List.set_cons_zero, List.set_cons_succ]
                  refine callH13 (by kernel_rfl) (fun K hK => ?_)
                  go_simp
                  go_at_call 49
                  refine (withVertex _ _ _ _ _ _ _ _ wo _ (wz.heap.size + 1) hsz hG.own hbD (by exact hoD) (renUpG_small (by omega))).mono ?_
                  rintro e wd ⟨t0, t1, t2, rfl, hod, hbd⟩
                  obtain ⟨T0, d0, T1, d1, T2, d2, rfl, rfl, rfl⟩ := hod.form
                  replace hbd := (hbD.mono hsz).trans hbd
                  obtain ⟨k1, k2, k3, k4⟩ := hG.call hbd
                  have hX3 := hX.below hbd (by omega)
                  have m0 := k2.hot 0
                  have m1 := k2.hot 1
                  have m2 := k2.hot 2
                  have S0 : wd.cell? ⟨wz.heap.size, 0, none⟩ = some (.slice U0 (renUpG g od at_ k).1.length v0) := k2.cell 0
                  have S1 : wd.cell? ⟨wz.heap.size, 1, none⟩ = some (.slice U1 (renUpG g od at_ k).2.1.length v1) := k2.cell 1
                  have S2 : wd.cell? ⟨wz.heap.size, 2, none⟩ = some (.slice U2 (renUpG g od at_ k).2.2.length v2) := k2.cell 2
                  have q0 : wd.cell? ⟨w.heap.size, 0, none⟩ = some (.slice (some ⟨bo, oo, none⟩) n0 c0) := hX3.cell 0
                  have q2 : wd.cell? ⟨w.heap.size, 2, none⟩ = some (.slice (some ⟨bp, op, none⟩) m c2) := hX3.cell 2
                  have ko := below_cell k3 hco
                  have kp := below_cell k3 hcp
                  go_wp2_with fail
                  refine hK.out _ _ (⟨q0, q2, ko, kp⟩) (fun hHeld => ?_)
                  clear hK K
                  try simp only [Act.put, List.setIfInBounds_toArray, List.set_cons_zero, List.set_cons_succ]
                  refine callH14 (by kernel_rfl) (fun K hK => ?_)
                  go_simp
                  refine hK.out _ _ (by refine ⟨?_, ?_, ?_, ?_⟩ <;> simp [World.cell?_setCell_other, *]) (fun hHeld => ?_)
                  clear hK K
                  try simp only [Act.put, List.setIfInBounds_toArray, List.set_cons_zero, List.set_cons_succ]
                  refine wpAnyH_done (by kernel_rfl) ?_ _
                  all_goals
                    have hG4 := hG.store hbd hod
                    have hC4 := (hC.then_below hbd (Nat.le_succ _)).push (Chg.set3 wd wz.heap.size (.slice T0 (addV (renUpG g od at_ k) (gi g.1 v) (gi g.2.2 v) (putsL (newNx at_ (gl g.2.1 v)))).1.length d0) (.slice T1 (addV (renUpG g od at_ k) (gi g.1 v) (gi g.2.2 v) (putsL (newNx at_ (gl g.2.1 v)))).2.1.length d1) (.slice T2 (addV (renUpG g od at_ k) (gi g.1 v) (gi g.2.2 v) (putsL (newNx at_ (gl g.2.1 v)))).2.2.length d2)) (fun x hx => .inl hx)
                    have HG4 := Lib.hid hG4; have HC4 := Lib.hid hC4
                    clear hG4 hC4
                    go_wp2
                    exact ⟨⟨k + 1, _, _, _, by omega, by go_num, by rw [HN.out]; exact HG4.out, HC4.out⟩, by simp [intOf]; omega⟩
            · obtain rfl : k = m := by omega
              have g0 := hG.c0; have g1 := hG.c1; have g2 := hG.c2
              have z0 := hG.z0; have z1 := hG.z1; have z2 := hG.z2
              have F0 := hG.hotZ 0; have F1 := hG.hotZ 1; have F2 := hG.hotZ 2
              obtain ⟨hF1, hF2, hF3⟩ := hG.fin
              have R0 := hF3.c0; have R1 := hF3.c1; have R2 := hF3.c2
              go_wp2
              exact bodyPost_ret (v := .tuple #[.agg #[.slice U0 (renUpG g od at_ k).1.length v0, .slice U1 (renUpG g od at_ k).2.1.length v1, .slice U2 (renUpG g od at_ k).2.2.length v2], .bool true]) (by simp [results, Try.results11, go_sem, R0, R1, R2]) rfl ⟨_, _, _, by rw [E.out], by rw [E2.out]; exact hF1.more (by omega), hF2.mono hB⟩
    · have hmi : ¬ (m : Int) = (n2 : Int) := by omega
      have E := Lib.hid (okRen_no2 (g := g) (od := od) (by rw [HP.out]; exact order_len (by rw [HD.out]; exact hmn)))
      have E2 := Lib.hid (renG_no E.out)
      clear hmn
      go_enter Try.func11, Try.ntmps11
      go_wp2_with fail
      refine (implParityOk _ _ _ g _ _ (Nat.le_refl _) (har.keep (keeps_below hwL))).mono ?_; rintro e w1 ⟨rfl, hb1⟩
      rw [HPB.out]
      have bx1 := bxL.on hb1; have br1 := brL.on hb1
      have hw1 := below_then hb1 hwL.size hwL
      clear q0 q1 q2 bxL brL hwL hb1
      have q0 : w1.cell? ⟨w.heap.size, 0, none⟩ = some (.slice A0 n0 c0) := bx1.cell 0; have q1 : w1.cell? ⟨w.heap.size, 1, none⟩ = some (.slice A1 n1 c1) := bx1.cell 1; have q2 : w1.cell? ⟨w.heap.size, 2, none⟩ = some (.slice A2 n2 c2) := bx1.cell 2
      have z0 : w1.cell? ⟨w.heap.size + 1, 0, none⟩ = some (.slice none 0 0) := br1.cell 0; have f0 := br1.hot 0; have z1 : w1.cell? ⟨w.heap.size + 1, 1, none⟩ = some (.slice none 0 0) := br1.cell 1; have f1 := br1.hot 1; have z2 : w1.cell? ⟨w.heap.size + 1, 2, none⟩ = some (.slice none 0 0) := br1.cell 2; have f2 := br1.hot 2
      go_wp2
      obtain ⟨hwZ, bxZ⟩ := zero3 hw1 (by omega) br1 (.slice none 0 0) (.slice none 0 0) (.slice none 0 0)
      have R0 := bxZ.cell 0; have R1 := bxZ.cell 1; have R2 := bxZ.cell 2
      simp only [List.getElem?_toArray, List.getElem?_cons_zero, List.getElem?_cons_succ] at R0 R1 R2
      exact bodyPost_ret (v := .tuple #[.agg #[.slice none 0 0, .slice none 0 0, .slice none 0 0], .bool false]) (by simp [results, Try.results11, go_sem, R0, R1, R2]) rfl ⟨_, _, _, by rw [E.out], by rw [E2.out]; exact OPar.nil _ _, hwZ.mono hB⟩
end Go.Proofs.Ytngadlpfheakiaa
