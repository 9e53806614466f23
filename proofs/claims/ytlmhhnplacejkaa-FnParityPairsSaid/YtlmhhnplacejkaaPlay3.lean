/- Plays against dice: w6Other, w6Meets, w6Full, w6Plan, w6Against. A play against dice: w6Against. -/
import Derived.Test.YtlmhhnplacejkaaPlay
namespace Go.Proofs.Ytlmhhnplacejkaa
open Go.RowKit

def otherL (m : Nat) (s : List Int) : List Int := pick (fun v => !hasL s (v : Int)) (fun v => (v : Int)) m
theorem mem_other {m : Nat} {s : List Int} {x : Int} : x ∈ otherL m s ↔ ∃ v : Nat, v < m ∧ hasL s (v : Int) = false ∧ (v : Int) = x := by
  unfold otherL
  rw [mem_pick]
  simp
theorem other_rises (m : Nat) (s : List Int) : rises (otherL m s) := pick_rises fun i j h _ => by omega
theorem other_set (m : Nat) (s : List Int) : setB (otherL m s) (m : Int) = true := setB_of_rises (other_rises m s) fun x hx => by
  obtain ⟨v, hv, _, e⟩ := mem_other.1 hx
  omega

theorem meetC_of {a b : List Int} {k : Nat} (hk : k < a.length) (h : hasL b (gi a k) = true) : meetB a b = true := decide_eq_true ⟨gi a k, gi_mem hk, of_decide_eq_true h⟩
theorem meetC_no {a b : List Int} {n : Nat} (hl : a.length = n) (h : ∀ j, j < n → hasL b (gi a j) = false) : meetB a b = false := by
  refine decide_eq_false fun ⟨x, h1, h2⟩ => ?_
  obtain ⟨i, hi, rfl⟩ := mem_gi h1
  exact of_decide_eq_false (h i (by omega)) h2
/-- a plan made full: the least successor where it lacks one -/
def fullV (o : List Int) (n : List (List Int)) (who : Int) (p : List Int) (v : Nat) : Int := if gi o v = who then (if 0 ≤ gi p v then gi p v else gi (gl n v) 0) else -1
def fullL (o : List Int) (n : List (List Int)) (who : Int) (p : List Int) : List Int := fill (fullV o n who p) o.length
theorem fullL_full {o : List Int} {n : List (List Int)} {who : Int} {p : List Int} (hf : fineAr o n) (hp : fineP o n who p) : fullP o n who (fullL o n who p) := by
  refine ⟨fill_len _ _, fun v hv => ?_⟩
  unfold fullL
  rw [fill_at hv]
  unfold fullV
  refine ⟨fun e => ?_, fun e => if_neg e⟩
  rw [if_pos e]
  rcases hp.2 v hv with h | h
  · rw [if_neg (by omega)]
    exact decide_eq_true (gi_mem (by have := (hf.2.2.2 v hv).2.1.1; omega))
  · rw [if_pos (row_has hf hv h.2).1]
    exact h.2

theorem cellC {b bl off : Nat} {w w' : World} {v : Value} (hc : Chg (fun y => y = b) w w') (h : w.cell? ⟨bl, off, none⟩ = some v) (hne : bl ≠ b) : w'.cell? ⟨bl, off, none⟩ = some v := by
  have hl := World.block_lt_of_cell? w _ h
  exact (World.cell?_of_block (w := w) (hc.block bl (by simpa using hl) (fun e => hne e))).trans h
theorem cellL {bl off : Nat} {w : World} {v : Value} (h : w.cell? ⟨bl, off, none⟩ = some v) : bl < w.heap.size := by simpa using World.block_lt_of_cell? w _ h

/-- a full plan by dice -/
def PlanBy (w0 w : World) (b : Nat) (o : List Int) (n : List (List Int)) (who : Int) (e : Ending) (w' : World) : Prop :=
  ∃ v p, e = .returned v ∧ fullP o n who p ∧ OI 2 w' w.heap.size v p ∧ DiceAt w0 w' b ∧ Chg (fun y => y = b) w w'
/-- a full plan as far as vertex k -/
def planUp (o : List Int) (n : List (List Int)) (who : Int) (p : List Int) (k : Nat) : Prop := p.length = k ∧ ∀ v, v < k → (gi o v = who → hasL (gl n v) (gi p v) = true) ∧ (¬ gi o v = who → gi p v = -1)
theorem planUp_succ {o : List Int} {n : List (List Int)} {who : Int} {p : List Int} {k : Nat} {x : Int} (h : planUp o n who p k) (h1 : gi o k = who → hasL (gl n k) x = true) (h2 : ¬ gi o k = who → x = -1) : planUp o n who (p ++ [x]) (k + 1) := by
  refine ⟨by rw [List.length_append, h.1]; rfl, fun v hv => ?_⟩
  by_cases e : v < k
  · rw [gi_app_lt (by rw [h.1]; exact e)]; exact h.2 v e
  · obtain rfl : v = k := by omega
    rw [show gi (p ++ [x]) v = x by rw [← h.1]; exact gi_app_eq]
    exact ⟨h1, h2⟩

theorem OArn.cells {w : World} {lo : Nat} {s0 s1 : Value} {z : ArD} (h : OArn w lo s0 s1 z) {k : Nat} (hk : k < z.2.length) (hn : 0 < (gl z.2 k).length) :
    ∃ c1 bn br cn, s1 = .slice (some ⟨bn, 0, none⟩) z.2.length c1 ∧ lo ≤ bn ∧ w.cell? ⟨bn, k, none⟩ = some (.slice (some ⟨br, 0, none⟩) (gl z.2 k).length cn) ∧ lo ≤ br ∧ (∀ j, j < (gl z.2 k).length → w.cell? ⟨br, j, none⟩ = some (.int .i64 (gi (gl z.2 k) j))) ∧ (gl z.2 k).length ≤ cn ∧ cn ≤ 9223372036854775807 := by
  obtain ⟨cs, ⟨h0, h1, h2⟩, hd⟩ := h
  have hl := row_len h1
  obtain ⟨br, cn, e⟩ := (h2 k (by omega)).form2 hn
  have hok := h2 k (by omega)
  have h1' := h1
  rcases h1.2 with ⟨_, h3⟩ | ⟨g, cap, cur, rfl, _⟩
  · omega
  · have hc := row_cell h1' (j := k) (by omega)
    rw [e] at hc hok
    exact ⟨cap, g, br, cn, rfl, (World.ownsRow.lt h1' g rfl).1, hc, (hok.lt br rfl).1, fun j hj => hok.cellAt hj, hok.reads.cap, hok.reads.top⟩

set_option maxRecDepth 100000 in
set_option maxHeartbeats 1600000 in
theorem w6Plan (s0 s1 : Value) (z : ArD) (who : Int) (w0 w : World) (b lo : Nat) (hd : DiceAt w0 w b) (ho : OArn w lo s0 s1 z) (hbl : b < lo) (hf : fineAr z.1 z.2) :
    Calls Try.prog 18 #[.pointer (some ⟨b, 0, none⟩), .agg #[s0, s1], .int .i64 who] w (PlanBy w0 w b z.1 z.2 who) := by
  have HF := Lib.hid hf
  have hz8 : z.1.length ≤ 256 := hf.2.1
  have HZ := Lib.hid hf.2.2.1
  have hz2 : z.2.length ≤ 256 := by have := HZ.out; omega
  have hdl := hd.lt
  have hba : Below w.heap.size w ((w.alloc (.cells #[s0, s1] 30)).alloc (.cells #[] 2)) := below_alloc (Nat.le_refl _) (below_alloc (Nat.le_refl _) (Below.refl _ _))
  have bx := (Box.new w 30 #[s0, s1]).alloc (.cells #[] 2)
  have hem := OI.empty (E := 2) (w := w.alloc (.cells #[s0, s1] 30)) (B := w.heap.size + 1) (by simp)
  have hcc := (Chg.refl (fun y => y = b) w).then_below hba (Nat.le_refl _)
  have hd' := hd.on hba
  obtain ⟨A0, c0, A1, c1, rfl, rfl⟩ := ho.form
  clear hf hd hba
  have ho0 := ho
  clear ho
  go_enter Try.func18, Try.ntmps18
  go_wp2
  go_loopw [7, 8, 9] (fun u i _ wr => ∃ (k : Nat) (p : List Int), k ≤ z.1.length ∧ i = .int .i64 k ∧ planUp z.1 z.2 who p k ∧ OI 2 wr (w.heap.size + 1) u p ∧ Box wr w.heap.size 30 #[.slice A0 z.1.length c0, .slice A1 z.2.length c1] ∧ DiceAt w0 wr b ∧ Chg (fun y => y = b) w wr) (fun _ i _ _ => z.1.length - (intOf i).toNat)
  case atStart => exact ⟨0, [], Nat.zero_le _, rfl, ⟨rfl, fun v hv => absurd hv (by omega)⟩, by simpa using hem, bx, hd', hcc⟩
  case round =>
    clear hem bx hd' hcc
    obtain ⟨k, p, hk, rfl, hpu, hop, bx, hdr, hc⟩ := hrel
    have ho := ho0.chg hc (fun y hy => by have h3 : y = b := hy; omega)
    have HP := Lib.hid hpu
    have hpl : p.length ≤ 4194304 := by rw [hpu.1]; omega
    clear hpu
    have q0 := bx.d0; have q1 := bx.d1
    have hbx := bx.lt
    have hsz : w.heap.size + 1 ≤ wr.heap.size := by omega
    by_cases hkl : k < z.1.length
    · have hkl2 : k < z.2.length := by rw [HZ.out]; exact hkl
      have hrow := HF.out.2.2.2 k hkl
      have hnn1 : 1 ≤ (gl z.2 k).length := hrow.2.1.1
      have hnn2 : (gl z.2 k).length ≤ 16 := hrow.2.1.2
      obtain ⟨c1', bn, br, cn, hA1, hbn, kN, hbr, kR, hcn1, hcn2⟩ := ho.cells hkl2 (by omega)
      injection hA1 with hA1 _ hc1'
      subst hA1; subst hc1'
      obtain ⟨bo, oo, rfl, kO⟩ := ho.reads.ri.at_ hkl
      have hki : (k : Int) < (z.1.length : Int) := by omega
      have hki1 : (k : Int) < (z.2.length : Int) := by omega
      have hk0 : (0 : Int) ≤ (k : Int) := by omega
      have HR := Lib.hid hrow
      clear hrow
      by_cases hown : gi z.1 k = who
      · have e1 : (gi z.1 k == who) = true := by simp [hown]
        have HO := Lib.hid hown
        obtain ⟨nn, hnn⟩ : ∃ nn, nn = (gl z.2 k).length := ⟨_, rfl⟩
        rw [← hnn] at kN kR hnn1 hnn2 hcn1
        have HNN := Lib.hid hnn
        clear hown hnn
        go_wp2_with fail
        refine wp_region_held_drew (S := (fun w' => w'.cell? ⟨w.heap.size, 1, none⟩ = some (.slice (some ⟨bn, 0, none⟩) z.2.length c1) ∧ w'.cell? ⟨bn, k, none⟩ = some (.slice (some ⟨br, 0, none⟩) nn cn))) (by kernel_rfl) ⟨q1, kN⟩ (fun hHeld => ?_)
        have hdD := hdr.on (Below.drew (Below.refl wr.heap.size wr))
        have bxD : Box wr.drew _ _ _ := bx
        have hcD : Chg (fun y => y = b) w wr.drew := hc.drewN 1
        have hopD := hop.drew
        replace q1 : wr.drew.cell? _ = some _ := q1
        replace kN : wr.drew.cell? _ = some _ := kN
        replace kR : ∀ j, j < nn → wr.drew.cell? ⟨br, j, none⟩ = some (.int .i64 (gi (gl z.2 k) j)) := kR
        clear hdr bx hc hop q0 kO
        generalize wr.drew = wD at *
        refine takeH0 (v := ?_) (by kernel_rfl) (by kernel_rfl) (by kernel_rfl) (fun _ _ _ h => h) hHeld (by rfl) ?_ ?_
        rotate_left; · (intro w hSw; (try dsimp only at hSw); go_simp; try with_reducible rfl)
        try simp only [Act.put, List.setIfInBounds_toArray, List.set_cons_zero, List.set_cons_succ]
        refine takeH1 (v := ?_) (by kernel_rfl) (by kernel_rfl) (by kernel_rfl) (fun _ _ _ h => h) hHeld (by rfl) ?_ ?_
        rotate_left; · (intro w hSw; (try dsimp only at hSw); go_simp; try with_reducible rfl)
        try simp only [Act.put, List.setIfInBounds_toArray, List.set_cons_zero, List.set_cons_succ]
        refine takeH2 (v := ?_) (by kernel_rfl) (by kernel_rfl) (by kernel_rfl) (fun _ _ _ h => h) hHeld (by rfl) ?_ ?_
        rotate_left; · (intro w hSw; (try dsimp only at hSw); go_simp; try with_reducible rfl)
        try simp only [Act.put, List.setIfInBounds_toArray, List.set_cons_zero, List.set_cons_succ]
        refine takeH3 (v := ?_) (by kernel_rfl) (by kernel_rfl) (by kernel_rfl) (fun _ _ _ h => h) hHeld (by rfl) ?_ ?_
        rotate_left; · (intro w hSw; (try dsimp only at hSw); go_simp; try with_reducible rfl)
        try simp only [Act.put, List.setIfInBounds_toArray, List.set_cons_zero, List.set_cons_succ]
        refine takeH4 (v := ?_) (by kernel_rfl) (by kernel_rfl) (by kernel_rfl) (fun _ _ _ h => h) hHeld (by rfl) ?_ ?_
        rotate_left; · (intro w hSw; (try dsimp only at hSw); go_simp; try with_reducible rfl)
        try simp only [Act.put, List.setIfInBounds_toArray, List.set_cons_zero, List.set_cons_succ]
        refine takeH5 (v := ?_) (by kernel_rfl) (by kernel_rfl) (by kernel_rfl) (fun _ _ _ h => h) hHeld (by rfl) ?_ ?_
        rotate_left; · (intro w hSw; (try dsimp only at hSw); go_simp; try with_reducible rfl)
        try simp only [Act.put, List.setIfInBounds_toArray, List.set_cons_zero, List.set_cons_succ]
        refine takeH6 (v := ?_) (by kernel_rfl) (by kernel_rfl) (by kernel_rfl) (fun _ _ _ h => h) hHeld (by rfl) ?_ ?_
        rotate_left; · (intro w hSw; (try dsimp only at hSw); go_simp; try with_reducible rfl)
        try simp only [Act.put, List.setIfInBounds_toArray, List.set_cons_zero, List.set_cons_succ]
        refine takeH7 (v := ?_) (by kernel_rfl) (by kernel_rfl) (by kernel_rfl) (fun _ _ _ h => h) hHeld (by rfl) ?_ ?_
        rotate_left; · (intro w hSw; (try dsimp only at hSw); go_simp; try with_reducible rfl)
        try simp only [Act.put, List.setIfInBounds_toArray, List.set_cons_zero, List.set_cons_succ]
        refine takeH8 (v := ?_) (by kernel_rfl) (by kernel_rfl) (by kernel_rfl) (fun _ _ _ h => h) hHeld (by rfl) ?_ ?_
        rotate_left; · (intro w hSw; (try dsimp only at hSw); go_simp; try with_reducible rfl)
        try simp only [Act.put, List.setIfInBounds_toArray, List.set_cons_zero, List.set_cons_succ]
        refine takeH9 (v := ?_) (by kernel_rfl) (by kernel_rfl) (by kernel_rfl) (fun _ _ _ h => h) hHeld (by rfl) ?_ ?_
        rotate_left; · (intro w hSw; (try dsimp only at hSw); go_simp; try with_reducible rfl)
        try simp only [Act.put, List.setIfInBounds_toArray, List.set_cons_zero, List.set_cons_succ]
        refine takeH10 (v := ?_) (by kernel_rfl) (by kernel_rfl) (by kernel_rfl) (fun _ _ _ h => h) hHeld (by rfl) ?_ ?_
        rotate_left; · (intro w hSw; (try dsimp only at hSw); go_simp; try with_reducible rfl)
        try simp only [Act.put, List.setIfInBounds_toArray, List.set_cons_zero, List.set_cons_succ]
        refine takeH11 (v := ?_) (by kernel_rfl) (by kernel_rfl) (by kernel_rfl) (fun _ _ _ h => h) hHeld (by rfl) ?_ ?_
        rotate_left; · (intro w hSw; (try dsimp only at hSw); go_simp; try with_reducible rfl)
        try simp only [Act.put, List.setIfInBounds_toArray, List.set_cons_zero, List.set_cons_succ]
        refine callH12 (by kernel_rfl) (fun K hK => ?_)
        go_simp
        go_at_call 14
        refine (below w0 _ b nn hdD (by omega)).mono ?_; rintro e w4 ⟨x, rfl, hx4, hd4, hc4⟩
        obtain ⟨x', rfl⟩ := Int.eq_ofNat_of_zero_le hx4.1
        have hx4l : x' < nn := by omega
        have hx4i : (x' : Int) < (nn : Int) := by omega
        have hx40 : (0 : Int) ≤ (x' : Int) := by omega
        have bx4 : Box w4 w.heap.size 30 #[.slice (some ⟨bo, oo, none⟩) z.1.length c0, .slice (some ⟨bn, 0, none⟩) z.2.length c1] := (hc4.block _ bxD.lt (fun e => by have h3 : w.heap.size = b := e; omega)).trans bxD
        have hop4 := hopD.chg hc4 (fun y hy e => by have := (hopD.lt y hy).1; have h3 : y = b := e; omega)
        have q1 := bx4.d1
        have kN := cellC hc4 kN (by omega)
        have kX : w4.cell? ⟨br, x', none⟩ = some (.int .i64 (gi (gl z.2 k) x')) := cellC hc4 (kR x' hx4l) (by omega)
        have hcc4 := chg_then hcD hc4
        have hsz4 := hcc4.size
        go_wp2_with fail
        refine hK.out _ _ (⟨q1, kN⟩) (fun hHeld => ?_)
        clear hK K
        try simp only [Act.put, List.setIfInBounds_toArray, List.set_cons_zero, List.set_cons_succ]
        refine takeH13 (v := ?_) (by kernel_rfl) (by kernel_rfl) (by kernel_rfl) (fun _ _ _ h => h) hHeld (by rfl) ?_ ?_
        rotate_left; · (intro w hSw; (try dsimp only at hSw); go_simp; try with_reducible rfl)
        try simp only [Act.put, List.setIfInBounds_toArray, List.set_cons_zero, List.set_cons_succ]
        refine callH14 (by kernel_rfl) (fun K hK => ?_)
        go_simp
        refine hK.out _ _ (⟨q1, kN⟩) (fun hHeld => ?_)
        clear hK K
        try simp only [Act.put, List.setIfInBounds_toArray, List.set_cons_zero, List.set_cons_succ]
        refine takeH15 (v := ?_) (by kernel_rfl) (by kernel_rfl) (by kernel_rfl) (fun _ _ _ h => h) hHeld (by rfl) ?_ ?_
        rotate_left; · (intro w hSw; (try dsimp only at hSw); go_simp; try with_reducible rfl)
        try simp only [Act.put, List.setIfInBounds_toArray, List.set_cons_zero, List.set_cons_succ]
        refine wpAnyH_done (by kernel_rfl) ?_ _
        have HXX := Lib.hid (show hasL (gl z.2 k) (gi (gl z.2 k) x') = true from decide_eq_true (gi_mem (by rw [← HNN.out]; exact hx4l)))
        have hsz5 : w.heap.size + 1 ≤ w4.heap.size := by have := bx4.lt; omega
        go_wp2_with (at_builtin; refine wpList_pushI rfl (.tmp 40) (.tmp 42) rfl _ (w.heap.size + 1) u7 p (by rfl) hop4 _ (by rfl) hpl hsz5 ?_; intro v2 w2 ho2 hb2 hc2 hat2)
        go_wp2
        go_roundw
        case rel => exact ⟨k + 1, p ++ [gi (gl z.2 k) x'], by omega, by go_num, planUp_succ HP.out (fun _ => HXX.out) (fun e => absurd HO.out e), ho2, bx4.below hb2 (by omega), hd4.chg hc2 (fun y hy => by have := (hop4.lt y hy).1; omega), hcc4.push hc2 (fun y hy => .inr (by have := (hop4.lt y hy).1; omega))⟩
        case measure => simp [intOf]; omega
      · have e1 : (gi z.1 k == who) = false := by simp [hown]
        have HO := Lib.hid hown
        clear hown
        go_wp2_with (at_builtin; refine wpList_pushI rfl (.tmp 40) (.tmp 42) rfl _ (w.heap.size + 1) u7 p (by rfl) hop _ (by rfl) hpl hsz ?_; intro v2 w2 ho2 hb2 hc2 hat2)
        go_wp2
        go_roundw
        case rel => exact ⟨k + 1, p ++ [-1], by omega, by go_num, planUp_succ HP.out (fun e => absurd e HO.out) (fun _ => rfl), ho2, bx.below hb2 (by omega), hdr.chg hc2 (fun y hy => by have := (hop.lt y hy).1; omega), hc.push hc2 (fun y hy => .inr (by have := (hop.lt y hy).1; omega))⟩
        case measure => simp [intOf]; omega
    · obtain rfl : k = z.1.length := by omega
      go_wp2
      go_ret
      exact ⟨_, p, rfl, ⟨HP.out.1, HP.out.2⟩, hop.more (by omega), hdr, hc⟩
end Go.Proofs.Ytlmhhnplacejkaa
namespace Go.Proofs.Ytlmhhnplacejkaa
open Go.RowKit

/-- a play of who by a plan, of the other one by dice -/
def LassoBy (w0 w : World) (b : Nat) (z : ArD) (who : Int) (p : List Int) (v : Nat) (e : Ending) (w' : World) : Prop :=
  ∃ v0 v1 st lp q, e = .returned (.agg #[v0, v1]) ∧ fullP z.1 z.2 (1 - who) q ∧ isPlay (if who = 1 then nxN z.1 q (fullL z.1 z.2 who p) else nxN z.1 (fullL z.1 z.2 who p) q) v st lp ∧ (st.length ≤ z.1.length ∧ lp.length ≤ z.1.length) ∧ OI 2 w' w.heap.size v0 st ∧ OI 2 w' w.heap.size v1 lp ∧ DiceAt w0 w' b ∧ Chg (fun y => y = b) w w'

end Go.Proofs.Ytlmhhnplacejkaa
