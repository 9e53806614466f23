/- The line of a vertex: spec.l13Line. -/
import Derived.Test.YtkhkdnmpbfmmeaaDoorTxtL
import Derived.Test.YtkhkdnmpbfmmeaaDoorParL
import Derived.Test.YtkhkdnmpbfmmeaaDoorMore
import Derived.Deep.RegionHeld3
namespace Go.Proofs.YtkhkdnmpbfmmeaaDoor
open Go.RowKit

theorem rs_lit3 {w : World} {a b c : ByteArray} : RS (w.alloc (.cells #[.string a, .string b, .string c] 9)) (some ⟨w.heap.size, 0, none⟩) 3 3 [a, b, c] := by
  refine ⟨rfl, ⟨Nat.le_refl _, by decide⟩, fun i hi => ⟨w.heap.size, 0, rfl, ?_⟩⟩
  rw [Nat.zero_add, World.cell?_alloc_new]
  match i, hi with
  | 0, _ => rfl
  | 1, _ => rfl
  | 2, _ => rfl
theorem set_all {xs : List Int} {n : Nat} (h : setB xs (n : Int) = true) : ∀ u ∈ xs, 0 ≤ u ∧ u < (n : Int) := by
  intro u hu
  obtain ⟨i, hi, rfl⟩ := mem_gi hu
  obtain ⟨m, e, hm⟩ := set_nat h hi
  omega
/-- the line of a vertex -/
def vtx (g : ParD) (v : Nat) : List UInt8 := jn [tx (Lib.decDigits (gi g.2.2 v).toNat), tx (wo (gi g.1 v)), tx (jn (nums (gl g.2.1 v)) [32])] [32]
theorem wo_len (o : Int) : (wo o).length ≤ 4 := by
  unfold wo
  split <;> simp [evB, odB]
theorem nums_len (us : List Int) : (nums us).length = us.length := by unfold nums; simp
theorem next_line {us : List Int} (hu : ∀ u ∈ us, 0 ≤ u ∧ u < 256) (hl : us.length ≤ 16) : (jn (nums us) [32]).length ≤ 160 := by
  have hs : ∀ i, i < (nums us).length → (gt (nums us) i).size ≤ 9 := by
    intro i hi
    rw [gt_get hi]
    unfold nums at hi ⊢
    rw [List.length_map] at hi
    rw [List.getElem_map, tx_size]
    have h1 := hu us[i] (List.getElem_mem hi)
    exact dec_len9 (by omega)
  have key : ∀ k, k ≤ (nums us).length → (jn ((nums us).take k) [32]).length ≤ 10 * k := by
    intro k
    induction k with
    | zero => intro _; simp [jn, Lib.join]
    | succ k ih =>
      intro hk
      have hx := hs k (by omega)
      rw [Lib.size_eq] at hx
      have := ih (by omega)
      rw [jn_take (by omega)]
      by_cases e : k = 0
      · subst e
        rw [if_pos rfl, List.nil_append]
        omega
      · rw [if_neg e, List.length_append, List.length_append, List.length_singleton]
        omega
  have h := key (nums us).length (Nat.le_refl _)
  rw [List.take_length, nums_len] at h
  omega

theorem l1WordsB (A : Option Addr) (n c : Nat) (xs : List ByteArray) (sp : List UInt8) (w : World) (ha : RS w A n c xs) (hx : ∀ i, i < xs.length → (gt xs i).size ≤ 1000) (hsp : sp.length ≤ 10) (hn : n ≤ 1000) :
    Calls Tryd.prog 54 #[.slice A n c, .string (tx sp)] w fun e w' => e = .returned (.string (tx (jn xs sp))) ∧ Below w.heap.size w w' :=
  (l1Words A n c xs sp w ha hx hsp hn).mono fun _ _ ⟨h, k⟩ => ⟨h, k.below _⟩
theorem l13WhoB (o : Int) (w : World) : Calls Tryd.prog 49 #[.int .i64 o] w fun e w' => e = .returned (.string (tx (wo o))) ∧ Below w.heap.size w w' :=
  (l13Who o w).mono fun _ _ ⟨h, k⟩ => ⟨h, k.below _⟩
set_option maxRecDepth 100000 in
set_option maxHeartbeats 1600000 in
theorem l13Line (s0 s1 s2 : Value) (g : ParD) (v : Nat) (w : World) (B : Nat) (hB : B ≤ w.heap.size) (ha : RPv w s0 s1 s2 g) (hg : finePar g) (hv : v < g.1.length) :
    Calls Tryd.prog 71 #[.agg #[s0, s1, s2], .int .i64 (v : Int)] w fun e w' => e = .returned (.string (tx (vtx g v))) ∧ Below B w w' := by
  obtain ⟨A0, n0, c0, A1, n1, c1, A2, n2, c2, rfl, rfl, rfl⟩ := ha.form
  have hr := ha.ri; have hrr := ha.rii; have hrp := ha.rp
  have b1 := hr.cap; have b2 := hr.top; have b3 := hrr.cap; have b4 := hrr.top; have b5 := hrp.cap; have b6 := hrp.top
  obtain ⟨⟨f1, f2, f3, f4⟩, f5, f6⟩ := hg
  have l0 := hr.len; have l1 := hrr.len; have l2 := hrp.len
  have hv0 : v < n0 := by omega
  have hv1 : v < n1 := by omega
  have hv2 : v < n2 := by omega
  obtain ⟨⟨o0, o1⟩, ⟨x0, x1⟩, xs⟩ := f4 v hv
  have HU := Lib.hid (set_all xs)
  obtain ⟨p0, p1⟩ := f6 v (by omega)
  obtain ⟨p, hp⟩ := Int.eq_ofNat_of_zero_le p0
  have HP := Lib.hid hp
  have HP4 := Lib.hid (show p < 1000000000 by omega)
  have HX := Lib.hid x1
  have H256 := Lib.hid f2
  obtain ⟨bo, fo, rfl, co⟩ := hr.at_ hv0
  obtain ⟨bp, fp, rfl, cp⟩ := hrp.at_ hv2
  obtain ⟨bn, fn, A', n', c', rfl, cn, rn⟩ := hrr.at_ hv1
  have hnl := Lib.hid rn.len
  rw [hp] at cp
  have lo := World.block_lt_of_cell? w _ co
  have lp := World.block_lt_of_cell? w _ cp
  have ln := World.block_lt_of_cell? w _ cn
  simp only at lo lp ln
  have HW : Hid (∀ i, i < [tx (Lib.decDigits p), tx (wo (gi g.1 v)), tx (jn (nums (gl g.2.1 v)) [32])].length → (gt [tx (Lib.decDigits p), tx (wo (gi g.1 v)), tx (jn (nums (gl g.2.1 v)) [32])] i).size ≤ 1000) := Lib.hid (fun i hi => by
    have h1 := dec_len9 HP4.out
    have h2 := wo_len (gi g.1 v)
    have h3 := next_line (us := gl g.2.1 v) (fun u hu => by have := HU.out u hu; have := H256.out; omega) HX.out
    match i, hi with
    | 0, _ => show (tx _).size ≤ _; rw [tx_size]; omega
    | 1, _ => show (tx _).size ≤ _; rw [tx_size]; omega
    | 2, _ => show (tx _).size ≤ _; rw [tx_size]; omega)
  clear f1 f2 f3 f4 f5 f6 x0 x1 xs p0 p1 hp l0 l1 l2 o0 o1 hv
  have bx := Box.new w 54 #[.slice (some ⟨bo, fo, none⟩) n0 c0, .slice (some ⟨bn, fn, none⟩) n1 c1, .slice (some ⟨bp, fp, none⟩) n2 c2]
  have hwL : Below w.heap.size w (w.alloc (.cells #[.slice (some ⟨bo, fo, none⟩) n0 c0, .slice (some ⟨bn, fn, none⟩) n1 c1, .slice (some ⟨bp, fp, none⟩) n2 c2] 54)) := below_alloc (Nat.le_refl _) (Below.refl _ _)
  go_enter Tryd.func71, Tryd.ntmps71
  go_wp2_with fail
  generalize (w.alloc (.cells #[.slice (some ⟨bo, fo, none⟩) n0 c0, .slice (some ⟨bn, fn, none⟩) n1 c1, .slice (some ⟨bp, fp, none⟩) n2 c2] 54)) = wL at bx hwL ⊢
  have HS : ∀ w', Below wL.heap.size wL w' → (w'.cell? ⟨w.heap.size, 0, none⟩ = some (.slice (some ⟨bo, fo, none⟩) n0 c0) ∧ w'.cell? ⟨w.heap.size, 1, none⟩ = some (.slice (some ⟨bn, fn, none⟩) n1 c1) ∧ w'.cell? ⟨w.heap.size, 2, none⟩ = some (.slice (some ⟨bp, fp, none⟩) n2 c2) ∧ w'.cell? ⟨bo, fo + v, none⟩ = some (.int .i64 (gi g.1 v)) ∧ w'.cell? ⟨bp, fp + v, none⟩ = some (.int .i64 p) ∧ w'.cell? ⟨bn, fn + v, none⟩ = some (.slice A' n' c')) := fun w' h => by
    have k := keeps_below hwL
    have bx' := bx.below h bx.lt
    exact ⟨bx'.cell 0, bx'.cell 1, bx'.cell 2, keeps_below h _ _ (k _ _ co), keeps_below h _ _ (k _ _ cp), keeps_below h _ _ (k _ _ cn)⟩
  obtain ⟨u0, u1, u2, u3, u4, u5⟩ := HS wL (Below.refl _ _)
  have H3 := Lib.hid HS
  clear HS co cp cn
  go_region_held3 (fun w' => w'.cell? ⟨w.heap.size, 0, none⟩ = some (.slice (some ⟨bo, fo, none⟩) n0 c0) ∧ w'.cell? ⟨w.heap.size, 1, none⟩ = some (.slice (some ⟨bn, fn, none⟩) n1 c1) ∧ w'.cell? ⟨w.heap.size, 2, none⟩ = some (.slice (some ⟨bp, fp, none⟩) n2 c2) ∧ w'.cell? ⟨bo, fo + v, none⟩ = some (.int .i64 (gi g.1 v)) ∧ w'.cell? ⟨bp, fp + v, none⟩ = some (.int .i64 p) ∧ w'.cell? ⟨bn, fn + v, none⟩ = some (.slice A' n' c'))
    (refine ⟨?_, ?_, ?_, ?_, ?_, ?_⟩ <;> repeat (first | with_reducible assumption | with_reducible refine keepD ?_ | with_reducible refine keepA ?_))
    (first
      | (go_at_call 77; refine (l1Int _ _ HP4.out _ (Nat.le_refl _)).mono ?_; rintro e w1 ⟨rfl, hb1⟩; have hx1 : Below wL.heap.size wL w1 := below_undrew hb1; obtain ⟨a0, a1, a2, a3, a4, a5⟩ := H3.out w1 hx1)
      | (go_at_call 49; refine (l13WhoB _ _).mono ?_; rintro e w2 ⟨rfl, hb2⟩; have hx2 : Below wL.heap.size wL w2 := below_then hb2 hx1.size hx1; obtain ⟨d0, d1, d2, d3, d4, d5⟩ := H3.out w2 hx2)
      | (go_at_call 93; refine (l1Ints _ _ _ (gl g.2.1 v) _ _ (Nat.le_refl _) (rn.keep (keeps_below (below_then hx2 hwL.size hwL))) (fun u hu => by have := HU.out u hu; have := H256.out; omega) (by have := HX.out; have := hnl.out; omega)).mono ?_; rintro e w3 ⟨rfl, hb3⟩; have hx3 : Below wL.heap.size wL w3 := below_then hb3 hx2.size hx2; obtain ⟨e0, e1, e2, e3, e4, e5⟩ := H3.out w3 hx3)
      | (go_at_call 54; refine (l1WordsB _ _ _ _ [32] _ rs_lit3 HW.out (by simp) (by decide)).mono ?_; rintro e w4 ⟨rfl, hb4⟩; have hx4 : Below wL.heap.size wL w4 := below_then hb4 (by simp; have := hx3.size; omega) (below_alloc (Nat.le_refl _) hx3); obtain ⟨g0, g1, g2, g3, g4, g5⟩ := H3.out w4 hx4))
  go_wp2
  go_ret
  exact ⟨by unfold vtx; rw [HP.out]; rfl, (below_then hx4 hwL.size hwL).mono hB⟩
end Go.Proofs.YtkhkdnmpbfmmeaaDoor
