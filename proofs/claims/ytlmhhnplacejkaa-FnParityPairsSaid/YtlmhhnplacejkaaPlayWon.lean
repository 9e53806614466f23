/- The winner of a play: topIn over a loop, PlayWon; w6Met. A play by full plans is a lasso of the arena: plain. Rows beside a box of another type: what is stored into the box leaves them. The greatest priority along a play is even exactly if all pairs of the game are satisfied: plain. -/
import Derived.Test.YtlmhhnplacejkaaLassoW3
import Derived.Test.YtlmhhnplacejkaaDiceS
import Derived.Test.YtlmhhnplacejkaaParL
import Derived.Test.YtlmhhnplacejkaaPick
import Derived.Test.YtlmhhnplacejkaaGame
import Derived.Test.YtlmhhnplacejkaaPlay3
import Derived.Test.YtlmhhnplacejkaaPairs5
import Derived.Test.YtlmhhnplacejkaaCopy
import Derived.Test.YtlmhhnplacejkaaUse
import Derived.Test.YtlmhhnplacejkaaPPair1
import Derived.Test.YtlmhhnplacejkaaBroken
import Derived.Test.YtlmhhnplacejkaaOftP
namespace Go.Proofs.Ytlmhhnplacejkaa
open Go.RowKit

def topW (p : List Int) (inn : List Int) : Nat → Int
  | 0 => -1
  | k + 1 => max (topW p inn k) (gi p (gi inn k).toNat)
set_option maxRecDepth 100000 in
set_option maxHeartbeats 800000 in
theorem topInW (s0 s1 s2 : Value) (g : ParD) (C : Option Addr) (m d : Nat) (inn : List Int) (w : World) (B : Nat) (hB : B ≤ w.heap.size) (ha : RPv w s0 s1 s2 g) (hi : RI w C m d inn) (hf : finePar g) (hs : ∀ k, k < inn.length → 0 ≤ gi inn k ∧ gi inn k < (g.2.2.length : Int)) :
    Calls Try.prog 78 #[.agg #[s0, s1, s2], .slice C m d] w fun e w' => e = .returned (.int .i64 (topW g.2.2 inn inn.length)) ∧ Below B w w' := by
  obtain ⟨A0, n0, c0, A1, n1, c1, A2, n2, c2, rfl, rfl, rfl⟩ := ha.form
  have hr := ha.ri; have hrr := ha.rii; have hrp := ha.rp
  have b1 := hr.cap; have b2 := hr.top; have b3 := hrr.cap; have b4 := hrr.top; have b5 := hrp.cap; have b6 := hrp.top
  have HP := Lib.hid hrp.len
  have hba : Below w.heap.size w (w.alloc (.cells #[.slice A0 n0 c0, .slice A1 n1 c1, .slice A2 n2 c2] 33)) := below_alloc (Nat.le_refl _) (Below.refl _ _)
  have bx := Box.new w 33 #[.slice A0 n0 c0, .slice A1 n1 c1, .slice A2 n2 c2]
  have k1 := hi.cap; have k2 := hi.top
  have HI := Lib.hid hi.len
  have hn2 : n2 ≤ 256 := by have h1 := hf.1.2.1; have h2 := hf.2.1; rw [HP.out] at h2; omega
  have HS := Lib.hid hs
  clear hf hs
  have q2 : (w.alloc (.cells #[.slice A0 n0 c0, .slice A1 n1 c1, .slice A2 n2 c2] 33)).cell? ⟨w.heap.size, 2, none⟩ = some (.slice A2 n2 c2) := bx.cell 2
  go_enter Try.func78, Try.ntmps78
  go_wp2
  go_loop [5, 10] (fun t i => ∃ k : Nat, k ≤ m ∧ i = .int .i64 k ∧ t = .int .i64 (topW g.2.2 inn k)) (fun _ i => m - (intOf i).toNat)
  case atStart => exact ⟨0, Nat.zero_le _, rfl, rfl⟩
  case round =>
    obtain ⟨k, hk, rfl, rfl⟩ := hrel
    by_cases hlt : k < m
    · obtain ⟨bi, oi, rfl, hc⟩ := (hi.keep (keeps_below hba)).at_ hlt
      have hin := HS.out k (by rw [HI.out]; exact hlt)
      obtain ⟨u, hu⟩ := Int.eq_ofNat_of_zero_le hin.1
      have hun : u < n2 := by have h5 := hin.2; rw [hu, HP.out] at h5; omega
      obtain ⟨bp, op, rfl, hcp⟩ := (hrp.keep (keeps_below hba)).at_ hun
      rw [hu] at hc
      have HX := Lib.hid (show topW g.2.2 inn (k + 1) = max (topW g.2.2 inn k) (gi g.2.2 u) by rw [topW, hu]; rfl)
      have hki : (k : Int) < (m : Int) := by omega
      have hk0 : (0 : Int) ≤ (k : Int) := by omega
      have hui : (u : Int) < (n2 : Int) := by omega
      have hu0 : (0 : Int) ≤ (u : Int) := by omega
      clear hu hin
      go_wp2
      go_round
      case rel => exact ⟨k + 1, by omega, by go_num, by rw [HX.out]⟩
      case measure => simp [intOf]; omega
    · obtain rfl : k = m := by omega
      have HE := Lib.hid (show topW g.2.2 inn k = topW g.2.2 inn inn.length by rw [HI.out])
      go_wp2
      go_ret
      exact ⟨ret_i HE.out, hba.mono hB⟩

/-- the vertices on a loop, ascending -/
def metUp (lp : List Int) (k : Nat) : List Int := pick (fun v => hasL lp (v : Int)) (fun v => (v : Int)) k
theorem metUp_yes {lp : List Int} {k : Nat} (h : hasL lp (k : Int) = true) : metUp lp (k + 1) = metUp lp k ++ [(k : Int)] := pick_yes h
theorem metUp_no {lp : List Int} {k : Nat} (h : hasL lp (k : Int) = false) : metUp lp (k + 1) = metUp lp k := pick_no h
theorem metUp_len (lp : List Int) (k : Nat) : (metUp lp k).length ≤ k := pick_len _ _ _
set_option maxRecDepth 100000 in
set_option maxHeartbeats 800000 in
theorem w6Met (n : Nat) (A : Option Addr) (m c : Nat) (lp : List Int) (w : World) (B : Nat) (hB : B ≤ w.heap.size) (ha : RI w A m c lp) (hn : n ≤ 256) :
    Calls Try.prog 22 #[.int .i64 (n : Int), .slice A m c] w fun e w' => ∃ v, e = .returned v ∧ OI 2 w' B v (metUp lp n) ∧ Below B w w' := by
  have b1 := ha.cap; have b2 := ha.top
  have hem := OI.empty (E := 2) (w := w) (B := w.heap.size) (Nat.le_refl _)
  have hba : Below w.heap.size w (w.alloc (.cells #[] 2)) := below_alloc (Nat.le_refl _) (Below.refl _ _)
  go_enter Try.func22, Try.ntmps22
  go_wp2
  go_loopw [5, 6] (fun u i wr => ∃ k : Nat, k ≤ n ∧ i = .int .i64 k ∧ OI 2 wr w.heap.size u (metUp lp k) ∧ Below w.heap.size w wr) (fun _ i _ => n - (intOf i).toNat)
  case atStart => exact ⟨0, Nat.zero_le _, rfl, hem, hba⟩
  case round =>
    clear hem hba
    obtain ⟨k, hk, rfl, ho, hbr⟩ := hrel
    have hlen := metUp_len lp k
    by_cases hlt : k < n
    · have hki : (k : Int) < (n : Int) := by omega
      go_wp2_with fail
      refine (w6Has _ _ _ lp (k : Int) _ (ha.keep (keeps_below hbr))).mono ?_; rintro e w2 ⟨rfl, hq⟩
      have hb2 := below_qt hq (Below.refl wr.heap.size wr)
      have ho2 := ho.below hb2
      have hw2 := below_then hb2 hbr.size hbr
      have hsz := hw2.size
      clear ho hq hb2 hbr
      cases hh : hasL lp (k : Int) with
      | true =>
        have X := Lib.hid (metUp_yes hh)
        clear hh
        go_wp2_with (at_builtin; refine wpList_pushI rfl (.tmp 16) (.tmp 18) rfl _ w.heap.size u5 (metUp lp k) (by rfl) ho2 _ (by rfl) (by omega) hsz ?_; intro v3 w3 ho3 hb3 hc3 hat3)
        go_wp2
        go_roundw
        case rel => exact ⟨k + 1, by omega, by go_num, by rw [X.out]; exact ho3, hw2.trans hb3⟩
        case measure => simp [intOf]; omega
      | false =>
        have X := Lib.hid (metUp_no hh)
        clear hh
        go_wp2
        go_roundw
        case rel => exact ⟨k + 1, by omega, by go_num, by rw [X.out]; exact ho2, hw2⟩
        case measure => simp [intOf]; omega
    · obtain rfl : k = n := by omega
      go_wp2
      go_ret
      exact ⟨_, rfl, ho.more hB, hbr.mono hB⟩

theorem las_loop {o : List Int} {n : List (List Int)} {z : TwoD} (h : lasE o n z = true) : ∀ k, k < z.2.length → 0 ≤ gi z.2 k ∧ gi z.2 k < (o.length : Int) := fun k hk => by
  unfold lasE at h
  rw [Bool.and_eq_true] at h
  have h2 := @of_decide_eq_true _ (Classical.propDecidable _) h.2
  have h3 := (h2 (z.1.length + k) (by unfold lasAll; simp; omega)).1
  have e : gi (lasAll z) (z.1.length + k) = gi z.2 k := by
    unfold lasAll
    rw [gi_app_l (by simp; omega)]
    simp [gi, List.getElem?_append_right]
  rw [e] at h3
  exact h3
theorem topW_low (p inn : List Int) : ∀ k, -1 ≤ topW p inn k
  | 0 => by simp [topW]
  | k + 1 => by have := topW_low p inn k; rw [topW]; omega
theorem topW_ge {p inn : List Int} : ∀ {k j : Nat}, j < k → gi p (gi inn j).toNat ≤ topW p inn k
  | k + 1, j, h => by
    rw [topW]
    by_cases e : j = k
    · subst e; omega
    · have := topW_ge (p := p) (inn := inn) (k := k) (j := j) (by omega); omega
theorem topW_is {p inn : List Int} : ∀ {k : Nat}, topW p inn k = -1 ∨ ∃ j, j < k ∧ topW p inn k = gi p (gi inn j).toNat
  | 0 => .inl rfl
  | k + 1 => by
    rw [topW]
    rcases Int.le_total (topW p inn k) (gi p (gi inn k).toNat) with h | h
    · exact .inr ⟨k, by omega, by omega⟩
    · rcases topW_is (p := p) (inn := inn) (k := k) with h2 | ⟨j, hj, h2⟩
      · exact .inl (by omega)
      · exact .inr ⟨j, by omega, by omega⟩

set_option maxRecDepth 100000 in
set_option maxHeartbeats 1600000 in
theorem implPlayWon (s0 s1 s2 t0 t1 : Value) (g : ParD) (z : TwoD) (w : World) (B : Nat) (hB : B ≤ w.heap.size) (ha : RPv w s0 s1 s2 g) (hz : RTv w t0 t1 z) (hp : parB g = true) (hl : lasE g.1 g.2.1 z = true) :
    Calls Try.prog 19 #[.agg #[s0, s1, s2], .agg #[t0, t1]] w fun e w' => e = .returned (.int .i64 (topW g.2.2 z.2 z.2.length % 2)) ∧ Below B w w' := by
  have har := ha
  obtain ⟨A0, n0, c0, A1, n1, c1, A2, n2, c2, rfl, rfl, rfl⟩ := ha.form
  have hr := ha.ri; have hrr := ha.rii
  obtain ⟨S, ms, ds, L, ml, dl, rfl, rfl⟩ := hz.form
  have hs1 := hz.r1; have hs2 := hz.r2
  have hf := finePar_of hp
  have HF := Lib.hid hf
  have HPB := Lib.hid hp; have HLS := Lib.hid hl
  have HR := Lib.hid (show ∀ k, k < z.2.length → 0 ≤ gi z.2 k ∧ gi z.2 k < (g.2.2.length : Int) from fun k hk => by have h := las_loop hl k hk; have := hf.2.1; omega)
  have ht : 0 ≤ topW g.2.2 z.2 z.2.length := by
    have h1 := lasE_1 (a := (g.1, g.2.1)) hl
    have h2 := HR.out 0 (by omega)
    have h3 := topW_ge (p := g.2.2) (inn := z.2) (k := z.2.length) (j := 0) (by omega)
    have h4 := (hf.2.2 (gi z.2 0).toNat (by omega)).1
    omega
  have hba : Below w.heap.size w ((w.alloc (.cells #[.slice A0 n0 c0, .slice A1 n1 c1, .slice A2 n2 c2] 33)).alloc (.cells #[.slice S ms ds, .slice L ml dl] 40)) := below_alloc (Nat.le_refl _) (below_alloc (Nat.le_refl _) (Below.refl _ _))
  have bx := (Box.new w 33 #[.slice A0 n0 c0, .slice A1 n1 c1, .slice A2 n2 c2]).alloc (.cells #[.slice S ms ds, .slice L ml dl] 40)
  have bl : Box ((w.alloc (.cells #[.slice A0 n0 c0, .slice A1 n1 c1, .slice A2 n2 c2] 33)).alloc (.cells #[.slice S ms ds, .slice L ml dl] 40)) (w.heap.size + 1) 40 #[.slice S ms ds, .slice L ml dl] := Box.new' (by simp)
  have q0 := bx.c0; have q1 := bx.c1; have q2 := bx.c2; have p0 := bl.d0; have p1 := bl.d1
  clear hp hl hf
  go_enter Try.func19, Try.ntmps19
  go_wp2_with fail
  refine (implParityOk _ _ _ g _ _ (Nat.le_refl _) (har.keep (keeps_below hba))).mono ?_; rintro e w1 ⟨rfl, hb1⟩
  rw [HPB.out]
  have hw1 := below_then hb1 hba.size hba
  replace bx := bx.below hb1 bx.lt; replace bl := bl.below hb1 bl.lt
  clear q0 q1 q2 p0 p1 hb1 hba
  have q0 := bx.c0; have q1 := bx.c1; have q2 := bx.c2; have p0 := bl.d0; have p1 := bl.d1
  go_wp2_with fail
  refine (isLasso _ _ _ _ _ _ _ _ _ _ _ _ g.1 g.2.1 z _ _ (Nat.le_refl _) (hr.keep (keeps_below hw1)) (hrr.keep (keeps_below hw1)) (hs1.keep (keeps_below hw1)) (hs2.keep (keeps_below hw1)) HF.out.1).mono ?_; rintro e w2 ⟨rfl, hb2⟩
  rw [HLS.out]
  have hw2 := below_then hb2 hw1.size hw1
  replace bx := bx.below hb2 bx.lt; replace bl := bl.below hb2 bl.lt
  clear q0 q1 q2 p0 p1 hb2
  have q0 := bx.c0; have q1 := bx.c1; have q2 := bx.c2; have p0 := bl.d0; have p1 := bl.d1
  go_wp2_with fail
  refine (topInW _ _ _ g _ _ _ z.2 _ _ (Nat.le_refl _) (har.keep (keeps_below hw2)) (hs2.keep (keeps_below hw2)) HF.out HR.out).mono ?_; rintro e w3 ⟨rfl, hb3⟩
  have hw3 := below_then hb3 hw2.size hw2
  clear q0 q1 q2 p0 p1
  go_wp2
  go_ret
  exact ⟨by simp [Int.tmod_eq_emod_of_nonneg ht], hw3.mono hB⟩
end Go.Proofs.Ytlmhhnplacejkaa
namespace Go.Proofs.Ytlmhhnplacejkaa
open Go.RowKit

theorem itrL_gi {f : Nat → Nat} {v a len i : Nat} (h : i < len) : gi (itrL f v a len) i = (itr f v (a + i) : Int) := by
  rw [gi_get (by rw [itrL_len]; exact h)]
  simp [itrL]
theorem play_all {f : Nat → Nat} {v : Nat} {st lp : List Int} (h : isPlay f v st lp) : 1 ≤ lp.length ∧ ∀ i, i < (lasAll (st, lp)).length → gi (lasAll (st, lp)) i = (itr f v i : Int) := by
  obtain ⟨k, t, h1, rfl, rfl, h2⟩ := h
  refine ⟨by rw [itrL_len]; omega, fun i hi => ?_⟩
  unfold lasAll at hi ⊢
  dsimp only at hi ⊢
  simp only [List.length_append, itrL_len, List.length_singleton] at hi
  by_cases e : i < t
  · rw [gi_app_l (by simp only [List.length_append, itrL_len]; omega)]
    by_cases e2 : i < k
    · rw [gi_app_l (by rw [itrL_len]; exact e2), itrL_gi e2]; simp
    · have e3 : gi (itrL f v 0 k ++ itrL f v k (t - k)) i = gi (itrL f v k (t - k)) (i - k) := by
        unfold gi
        simp only [List.getD_eq_getElem?_getD]
        rw [List.getElem?_append_right (by rw [itrL_len]; omega), itrL_len]
      rw [e3, itrL_gi (by omega), show k + (i - k) = i by omega]
  · obtain rfl : i = t := by omega
    rw [gi_app_r (by simp only [List.length_append, itrL_len]; omega)]
    show gi (itrL f v k (i - k)) 0 = _
    rw [itrL_gi (by omega), Nat.add_zero, h2]
theorem play_lasso {o : List Int} {n : List (List Int)} {pe pd st lp : List Int} {v : Nat} (hstep : ∀ x, x < o.length → nxN o pe pd x < o.length ∧ hasL (gl n x) (nxN o pe pd x : Int) = true) (hv : v < o.length) (h : isPlay (nxN o pe pd) v st lp) (hl : st.length ≤ 256 ∧ lp.length ≤ 256) : lasE o n (st, lp) = true := by
  obtain ⟨h1, h2⟩ := play_all h
  have hin : ∀ i, itr (nxN o pe pd) v i < o.length := fun i => by
    induction i with
    | zero => exact hv
    | succ i ih => exact (hstep _ ih).1
  refine lasE_yes ⟨hl.1, h1, hl.2⟩ fun i hi => ?_
  unfold lasAt
  rw [h2 i hi]
  refine ⟨⟨by omega, by have := hin i; omega⟩, fun h0 => ?_⟩
  rw [h2 (i - 1) (by omega)]
  obtain ⟨j, rfl⟩ : ∃ j, i = j + 1 := ⟨i - 1, by omega⟩
  exact (hstep _ (hin j)).2
theorem full_step {o : List Int} {n : List (List Int)} {pe pd : List Int} (hf : fineAr o n) (he : fullP o n 0 pe) (hd : fullP o n 1 pd) : ∀ x, x < o.length → nxN o pe pd x < o.length ∧ hasL (gl n x) (nxN o pe pd x : Int) = true := fun x hx => by
  have hr := hf.2.2.2 x hx
  have h3 : ∀ y, hasL (gl n x) y = true → y.toNat < o.length ∧ ((y.toNat : Nat) : Int) = y := fun y hy => by
    have := set_mem hr.2.2 (of_decide_eq_true hy)
    omega
  unfold nxN
  by_cases e : gi o x = 0
  · have h4 := ((he.2 x hx).1 e)
    rw [if_pos e]
    obtain ⟨h5, h6⟩ := h3 _ h4
    exact ⟨h5, by rw [h6]; exact h4⟩
  · have h4 := ((hd.2 x hx).1 (by omega))
    rw [if_neg e]
    obtain ⟨h5, h6⟩ := h3 _ h4
    exact ⟨h5, by rw [h6]; exact h4⟩
end Go.Proofs.Ytlmhhnplacejkaa
namespace Go.Proofs.Ytlmhhnplacejkaa
open Go.RowKit

/-- a row's block is no box of another type -/
theorem rowBox {E t : TypeId} {w : World} {lo size n b : Nat} {v : Value} {cs : List Value} {xs : Array Value} (h : w.ownsRow lo E size v n cs) (hb : Box w b t xs) (hne : E ≠ t) : v.ownBlock ≠ some b := by
  intro hv
  rcases h.2 with ⟨rfl, _⟩ | ⟨g, cap, cur, rfl, _, h3, _⟩
  · simp [Value.ownBlock] at hv
  · simp [Value.ownBlock] at hv
    subst hv
    unfold Box at hb
    rw [hb] at h3
    injection h3 with h3
    injection h3 with _ e
    exact hne e.symm
theorem OI.chgBox {w w' : World} {lo b : Nat} {t : TypeId} {xs : Array Value} {v : Value} {l : List Int} (h : OI 2 w lo v l) (hb : Box w b t xs) (h1 : 2 ≠ t) (hc : Chg (fun x => x = b) w w') : OI 2 w' lo v l :=
  h.chg hc fun z hz e => rowBox h hb h1 (by have e' : z = b := e; rw [hz, e'])
theorem OArn.chgBox {w w' : World} {lo b : Nat} {t : TypeId} {xs : Array Value} {s0 s1 : Value} {z : ArD} (h : OArn w lo s0 s1 z) (hb : Box w b t xs) (h1 : 2 ≠ t) (h2 : 27 ≠ t) (hc : Chg (fun x => x = b) w w') : OArn w' lo s0 s1 z := by
  obtain ⟨cs, ⟨k0, k1, k2⟩, k4⟩ := h
  exact ⟨cs, ⟨k0.chgBox hb h1 hc, row_chg k1 hc (fun z hz e => rowBox k1 hb h2 (by have e' : z = b := e; rw [hz, e'])), fun i hi => (k2 i hi).chgBox hb h1 hc⟩, k4⟩
theorem OPS.chgBox {w w' : World} {lo b : Nat} {t : TypeId} {xs : Array Value} {v : Value} {ps : List PairD} (h : OPS w lo v ps) (hb : Box w b t xs) (h1 : 2 ≠ t) (h2 : 96 ≠ t) (hc : Chg (fun x => x = b) w w') : OPS w' lo v ps := by
  obtain ⟨cs, k1, k2, k4⟩ := h
  exact ⟨cs, row_chg k1 hc (fun z hz e => rowBox k1 hb h2 (by have e' : z = b := e; rw [hz, e'])), fun i hi => (k2 i hi).chgBox hb h1 hc, k4⟩
end Go.Proofs.Ytlmhhnplacejkaa
namespace Go.Proofs.Ytlmhhnplacejkaa
open Go.RowKit

theorem askU_mem {pr : List Int} {p x : Int} {k : Nat} : x ∈ askU pr p k ↔ ∃ i : Nat, i < k ∧ gi pr i = p ∧ (i : Int) = x := by
  unfold askU; rw [mem_pick]; simp
theorem giveU_mem {pr : List Int} {p x : Int} {k : Nat} : x ∈ giveU pr p k ↔ ∃ i : Nat, i < k ∧ (p < gi pr i ∧ gi pr i % 2 = 0) ∧ (i : Int) = x := by
  unfold giveU; rw [mem_pick]; simp
theorem pairOf_ok (pr : List Int) (p : Int) : setB (pairOf pr p).1 (pr.length : Int) = true ∧ setB (pairOf pr p).2 (pr.length : Int) = true := by
  refine ⟨setB_of_rises (pick_rises fun i j h1 _ => by omega) fun x hx => ?_, setB_of_rises (pick_rises fun i j h1 _ => by omega) fun x hx => ?_⟩
  · obtain ⟨i, h1, _, rfl⟩ := askU_mem.1 hx
    omega
  · obtain ⟨i, h1, _, rfl⟩ := giveU_mem.1 hx
    omega
theorem ppS_gp {pr : List Int} {i : Nat} (k : Nat) (h : i < (ppS pr k).length) : ∃ x, gp (ppS pr k) i = pairOf pr x ∧ x % 2 = 1 := by
  obtain ⟨l, h1, _, h3⟩ := ppS_map pr k
  have hm := gp_mem h
  rw [h1] at hm
  obtain ⟨x, hx, e⟩ := List.mem_map.1 hm
  exact ⟨x, by rw [h1, ← e], ((h3 x).1 hx).2.1⟩
theorem ppS_small {pr : List Int} (h : ∀ v, v < pr.length → gi pr v < 8) : ∀ k, (ppS pr k).length ≤ 4
  | 0 => by simp [ppS]
  | k + 1 => by
    by_cases hk : k < 4
    · have := ppS_len pr (k + 1); omega
    · rw [ppS_no]
      · exact ppS_small h k
      · intro h2
        obtain ⟨i, hi, e⟩ := mem_gi (askU_pos.1 h2)
        have := h i hi
        omega
theorem ppS_pairs {pr : List Int} {n : Int} (h : ∀ v, v < pr.length → gi pr v < 8) (hn : (pr.length : Int) ≤ n) : pairsB (ppS pr 20) n = true :=
  pairsB_of rfl (ppS_small h 20) fun i hi => by
    obtain ⟨x, e, _⟩ := ppS_gp 20 hi
    obtain ⟨h1, h2⟩ := pairOf_ok pr x
    have wide : ∀ {xs : List Int}, setB xs (pr.length : Int) = true → setB xs n = true := fun {xs} hs => setB_of_rises (rises_set hs) fun x hx => by have := set_mem hs hx; omega
    rw [e, wide h1, wide h2]; rfl
theorem broken_none {ps : List PairD} {met : List Int} : (brokenL ps met).length = 0 ↔ ∀ i, i < ps.length → brokenAt ps met i = false := by
  rw [List.length_eq_zero_iff, List.eq_nil_iff_forall_not_mem]
  unfold brokenL brokenUp
  constructor
  · intro h i hi
    cases e : brokenAt ps met i with
    | false => rfl
    | true => exact absurd (mem_pick.2 ⟨i, hi, e, rfl⟩) (h (i : Int))
  · intro h x hx
    obtain ⟨i, hi, h2, _⟩ := mem_pick.1 hx
    rw [h i hi] at h2
    cases h2
theorem parity_law {pr lp : List Int} (h0 : ∀ v, v < pr.length → 0 ≤ gi pr v ∧ gi pr v ≤ 40) (hl : 1 ≤ lp.length) (hr : ∀ k, k < lp.length → 0 ≤ gi lp k ∧ gi lp k < (pr.length : Int)) :
    (brokenL (ppS pr 20) lp).length = 0 ↔ topW pr lp lp.length % 2 = 0 := by
  have hT : ∃ j, j < lp.length ∧ topW pr lp lp.length = gi pr (gi lp j).toNat := by
    rcases topW_is (p := pr) (inn := lp) (k := lp.length) with h | h
    · have h1 := topW_ge (p := pr) (inn := lp) (k := lp.length) (j := 0) (by omega)
      have h2 := hr 0 (by omega)
      have h3 := h0 (gi lp 0).toNat (by omega)
      omega
    · exact h
  obtain ⟨j, hj, hT⟩ := hT
  have hrj := hr j hj
  have hju : (gi lp j).toNat < pr.length := by omega
  have h0j := h0 _ hju
  have htop : ∀ y, y ∈ lp → gi pr y.toNat ≤ topW pr lp lp.length := fun y hy => by
    obtain ⟨i, hi, rfl⟩ := mem_gi hy
    exact topW_ge hi
  rw [broken_none]
  constructor
  · intro h
    rcases Int.emod_two_eq (topW pr lp lp.length) with h2 | h2
    · exact h2
    · obtain ⟨l, h3, _, h4⟩ := ppS_map pr 20
      have hm : topW pr lp lp.length ∈ l := (h4 _).2 ⟨by rw [hT]; exact gi_mem hju, h2, by omega, by omega⟩
      have hm2 : pairOf pr (topW pr lp lp.length) ∈ ppS pr 20 := by rw [h3]; exact List.mem_map.2 ⟨_, hm, rfl⟩
      obtain ⟨i, hi, e⟩ := mem_gp hm2
      have h5 := h i hi
      unfold brokenAt at h5
      rw [e] at h5
      have h6 : meetB (pairOf pr (topW pr lp lp.length)).1 lp = true := decide_eq_true ⟨gi lp j, askU_mem.2 ⟨(gi lp j).toNat, hju, hT.symm, by omega⟩, gi_mem hj⟩
      have h7 : meetB (pairOf pr (topW pr lp lp.length)).2 lp = false := decide_eq_false fun ⟨y, hy1, hy2⟩ => by
        obtain ⟨i, _, ⟨h8, _⟩, rfl⟩ := giveU_mem.1 hy1
        have := htop _ hy2
        rw [Int.toNat_natCast] at this
        omega
      rw [h6, h7] at h5
      cases h5
  · intro h i hi
    obtain ⟨x, e, hx⟩ := ppS_gp 20 hi
    unfold brokenAt
    rw [e]
    cases h6 : meetB (pairOf pr x).1 lp with
    | false => rfl
    | true =>
      obtain ⟨y, hy1, hy2⟩ := of_decide_eq_true h6
      obtain ⟨i, _, h8, rfl⟩ := askU_mem.1 hy1
      have h9 := htop _ hy2
      rw [Int.toNat_natCast, h8] at h9
      have h10 : meetB (pairOf pr x).2 lp = true := decide_eq_true ⟨gi lp j, giveU_mem.2 ⟨(gi lp j).toNat, hju, ⟨by omega, by rw [← hT]; exact h⟩, by omega⟩, gi_mem hj⟩
      rw [h10]; rfl
theorem metUp_mem {lp : List Int} {n : Nat} (hr : ∀ k, k < lp.length → 0 ≤ gi lp k ∧ gi lp k < (n : Int)) {x : Int} : x ∈ metUp lp n ↔ x ∈ lp := by
  unfold metUp
  rw [mem_pick]
  constructor
  · rintro ⟨i, _, h2, rfl⟩
    exact of_decide_eq_true h2
  · intro h
    obtain ⟨k, hk, e⟩ := mem_gi h
    have := hr k hk
    exact ⟨x.toNat, by omega, decide_eq_true (by rw [show ((x.toNat : Nat) : Int) = x by omega]; exact h), by omega⟩
theorem met_broken {ps : List PairD} {lp : List Int} {n : Nat} (hr : ∀ k, k < lp.length → 0 ≤ gi lp k ∧ gi lp k < (n : Int)) : brokenL ps (metUp lp n) = brokenL ps lp := by
  have h1 : ∀ a, meetB a (metUp lp n) = meetB a lp := fun a => by
    unfold meetB
    exact decide_eq_decide.2 ⟨fun ⟨x, h1, h2⟩ => ⟨x, h1, (metUp_mem hr).1 h2⟩, fun ⟨x, h1, h2⟩ => ⟨x, h1, (metUp_mem hr).2 h2⟩⟩
  unfold brokenL brokenUp
  rw [show brokenAt ps (metUp lp n) = brokenAt ps lp from funext fun i => by unfold brokenAt; rw [h1, h1]]
theorem met_set (lp : List Int) {n : Nat} (hn : n ≤ 256) : setB (metUp lp n) 256 = true :=
  setB_of_rises (pick_rises fun i j h1 _ => by omega) fun x hx => by
    unfold metUp at hx
    obtain ⟨i, hi, _, rfl⟩ := mem_pick.1 hx
    omega
end Go.Proofs.Ytlmhhnplacejkaa
