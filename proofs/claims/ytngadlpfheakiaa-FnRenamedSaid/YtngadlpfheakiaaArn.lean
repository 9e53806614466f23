/- Arenas by dice: appends to an arena with a row beside it; w6Arena. -/
import Derived.Test.YtngadlpfheakiaaDice
import Derived.Test.YtngadlpfheakiaaCopy
import Derived.Test.YtngadlpfheakiaaOftP
import Derived.Test.YtngadlpfheakiaaPlan2
import Derived.Test.YtngadlpfheakiaaHand
namespace Go.Proofs.Ytngadlpfheakiaa
open Go.RowKit

theorem twoH_1_3 {P : Program} {Q : Exit → Act → World → Prop} {md : Region.Mode} {S : World → Prop} {fuel : Nat} {listed : Array Bool} {a : Act} {w : World} {o0 o1 o2 o3 : Oper} {r : List Oper} (hr : Region.ready md (List.toArray (o0 :: o1 :: o2 :: o3 :: r)) listed = [1, 3])
    (h1 : ∀ K' : Act → World → Prop, Shut (∀ a w, S w → (S w → wpAnyH P md (List.toArray (o0 :: o1 :: o2 :: o3 :: r)) Q S fuel (listed.setIfInBounds 1 true) a w) → K' a w) → if Region.wanted o1 (yielded (List.toArray (o0 :: o1 :: o2 :: o3 :: r)) a.tmps) = true then Oper.wp P o1 a w K' Q else K' (a.put o1.dst undef) w) (h2 : ∀ K' : Act → World → Prop, Shut (∀ a w, S w → (S w → wpAnyH P md (List.toArray (o0 :: o1 :: o2 :: o3 :: r)) Q S fuel (listed.setIfInBounds 3 true) a w) → K' a w) → if Region.wanted o3 (yielded (List.toArray (o0 :: o1 :: o2 :: o3 :: r)) a.tmps) = true then Oper.wp P o3 a w K' Q else K' (a.put o3.dst undef) w) : wpAnyH P md (List.toArray (o0 :: o1 :: o2 :: o3 :: r)) Q S (fuel + 1) listed a w :=
  wpAnyH_ready (rs := [1, 3]) hr (by simp) (AllReadyH.cons rfl h1 (AllReadyH.cons rfl h2 AllReadyH.nil))
theorem twoH_1_4 {P : Program} {Q : Exit → Act → World → Prop} {md : Region.Mode} {S : World → Prop} {fuel : Nat} {listed : Array Bool} {a : Act} {w : World} {o0 o1 o2 o3 o4 : Oper} {r : List Oper} (hr : Region.ready md (List.toArray (o0 :: o1 :: o2 :: o3 :: o4 :: r)) listed = [1, 4])
    (h1 : ∀ K' : Act → World → Prop, Shut (∀ a w, S w → (S w → wpAnyH P md (List.toArray (o0 :: o1 :: o2 :: o3 :: o4 :: r)) Q S fuel (listed.setIfInBounds 1 true) a w) → K' a w) → if Region.wanted o1 (yielded (List.toArray (o0 :: o1 :: o2 :: o3 :: o4 :: r)) a.tmps) = true then Oper.wp P o1 a w K' Q else K' (a.put o1.dst undef) w) (h2 : ∀ K' : Act → World → Prop, Shut (∀ a w, S w → (S w → wpAnyH P md (List.toArray (o0 :: o1 :: o2 :: o3 :: o4 :: r)) Q S fuel (listed.setIfInBounds 4 true) a w) → K' a w) → if Region.wanted o4 (yielded (List.toArray (o0 :: o1 :: o2 :: o3 :: o4 :: r)) a.tmps) = true then Oper.wp P o4 a w K' Q else K' (a.put o4.dst undef) w) : wpAnyH P md (List.toArray (o0 :: o1 :: o2 :: o3 :: o4 :: r)) Q S (fuel + 1) listed a w :=
  wpAnyH_ready (rs := [1, 4]) hr (by simp) (AllReadyH.cons rfl h1 (AllReadyH.cons rfl h2 AllReadyH.nil))
theorem apart_grow2 {u v x : Value} {H : Nat} (h : Apart u x) (hat : ∀ b, v.ownBlock = some b → u.ownBlock = some b ∨ H ≤ b) (hx : ∀ b, x.ownBlock = some b → b < H) : Apart v x := by
  unfold Apart
  cases e : v.ownBlock with
  | none => exact .inl rfl
  | some b =>
    right
    intro e2
    rcases hat b e with h1 | h1
    · exact apart_not h h1 e2.symm
    · have := hx b e2.symm; omega
theorem OPar.oldA {w : World} {lo : Nat} {s0 s1 s2 : Value} {g : ParD} (h : OPar w lo s0 s1 s2 g) : ∀ b, (s0.ownBlock = some b ∨ s1.ownBlock = some b ∨ s2.ownBlock = some b) → lo ≤ b := by
  obtain ⟨cs, ⟨k0, k1, k2⟩, k3, k4⟩ := h
  rintro b (h | h | h)
  · exact (k0.lt b h).1
  · exact (World.ownsRow.lt k1 b h).1
  · exact (k3.lt b h).1
theorem OPar.ofArn {S : Nat → Prop} {W w : World} {lo : Nat} {s0 s1 u : Value} {z : ArD} {ys : List Int} (h : OArn W lo s0 s1 z) (hlo : lo ≤ W.heap.size) (hc : Chg S W w) (hS : ∀ b, S b → b < lo) (hu : OI 2 w W.heap.size u ys) : OPar w lo s0 s1 u (z.1, z.2, ys) := by
  obtain ⟨cs, ha, hd⟩ := h
  obtain ⟨h0, h1, h2⟩ := ha
  refine ⟨cs, OAr.chg ⟨h0, h1, h2⟩ hc hS, hu.more hlo, Dis.cons (Dis.cons hd.tail fun i hi => ?_) fun i hi => ?_⟩
  · exact (apart_sep (fun b hb => (h2.lt i hi b hb).2) (fun b hb => (hu.lt b hb).1)).symm
  · cases i with
    | zero => exact apart_sep (fun b hb => (h0.lt b hb).2) (fun b hb => (hu.lt b hb).1)
    | succ j => exact hd.head (i := j) (by simpa using hi)
theorem OPar.put0 {w w' : World} {lo : Nat} {s0 s1 u t0 : Value} {g : ParD} {xs : List Int} (h : OPar w lo s0 s1 u g) (hc : Chg (fun b => s0.ownBlock = some b) w w') (h0 : OI 2 w' lo t0 xs)
    (hat : ∀ b, t0.ownBlock = some b → s0.ownBlock = some b ∨ w.heap.size ≤ b) : OPar w' lo t0 s1 u (xs, g.2.1, g.2.2) := by
  obtain ⟨cs, ⟨k0, k1, k2⟩, k3, hd⟩ := h
  have d0u : Apart s0 u := hd 0 1 (by simp) (by simp) (by omega)
  have d0c : ∀ i, i < cs.length → Apart s0 (gv cs i) := fun i hi => hd.skip.head hi
  refine ⟨cs, ⟨h0, row_chg k1 hc (fun b hb hs => own_ne k0 k1 (by decide) b hs hb), fun i hi => (k2 i hi).chg hc (fun b hb hs => apart_not (d0c i hi) hs hb)⟩, k3.chg hc (fun b hb hs => apart_not d0u hs hb), Dis.cons hd.tail fun i hi => ?_⟩
  cases i with
  | zero => exact apart_grow2 d0u hat (fun b hb => (k3.lt b hb).2)
  | succ j => exact apart_grow2 (d0c j (by simpa using hi)) hat (fun b hb => (k2.lt j (by simpa using hi) b hb).2)
theorem wp_pushU {o : Oper} {a : Act} {K : Act → World → Prop} {Q : Exit → Act → World → Prop} (s x : Operand)
    (ho : o.op = .call { callee := .builtin .append, args := #[s, x], argTypes := #[28, 28] })
    (w : World) (lo : Nat) (s0 s1 u : Value) (g : ParD) (hs : a.eval s = s1) (hx : a.eval x = .slice (some ⟨w.heap.size, 0, none⟩) 1 1)
    (hlo : lo ≤ w.heap.size) (hown : OPar w lo s0 s1 u g) (hn : g.2.1.length ≤ 4194304)
    (h : ∀ t1 w', OArn w' lo s0 t1 (g.1, g.2.1 ++ [g.2.2]) → Below lo w w' → Chg (fun b => s1.ownBlock = some b) w w' → (∀ b, t1.ownBlock = some b → s1.ownBlock = some b ∨ w.heap.size ≤ b) → K (a.put o.dst t1) w') : o.wp Try.prog a (w.alloc (.cells #[u] 27)) K Q := by
  obtain ⟨i1, hi1, hy0, hy1, hy2⟩ := info_parts infoII
  obtain ⟨cs, ⟨h0, h1, h2⟩, hu, hd⟩ := hown
  obtain ⟨Au, cu, rfl⟩ := hu.form
  have hba : Below w.heap.size w (w.alloc (.cells #[.slice Au g.2.2.length cu] 27)) := below_alloc (Nat.le_refl _) (Below.refl _ _)
  have k0 := h0.below hba
  have k1 := row_below h1 hba
  have k2 := h2.below hba
  have ku := hu.below hba
  have d0u : Apart s0 (.slice Au g.2.2.length cu) := hd 0 1 (by simp) (by simp) (by omega)
  have d0c : ∀ i, i < cs.length → Apart s0 (gv cs i) := fun i hi => hd.skip.head hi
  have duc : ∀ i, i < cs.length → Apart (.slice Au g.2.2.length cu) (gv cs i) := fun i hi => hd.tail.head hi
  have hsz : lo ≤ (w.alloc (.cells #[.slice Au g.2.2.length cu] 27)).heap.size := by simp; omega
  refine wp_append_lies _ s x 28 ho lo 27 i1 (.slice none 0 0) 1 24 Try.underlying28 hi1 hy0 hy1 hy2 rfl (by decide) s1 g.2.1.length cs hs k1 ⟨w.heap.size, 0, none⟩ 1 1 [.slice Au g.2.2.length cu] hx rfl
    (push_news ((Box.new w 27 #[.slice Au g.2.2.length cu]).cell 0)) (by simp [Value.oneCell']) (by decide) (by unfold maxLen; omega) (by omega) hsz _ rfl ?_
  intro gg cap w' r hg hat hlt
  have hc := Chg.of_grown hg
  have hc' : Chg (fun b => s1.ownBlock = some b) w w' := ((Chg.refl (fun _ => False) w).alloc _).trans hc (fun _ h => h.elim) (fun _ h => h)
  have n0 := k0.chg hc (fun b hb hs => own_ne k0 k1 (by decide) b hb hs)
  have n2 : OL 2 w' lo cs (gl g.2.1) := fun i hi => (k2 i hi).chg hc (fun b hb hs => own_ne (k2 i hi) k1 (by decide) b hb hs)
  have nu := ku.chg hc (fun b hb hs => own_ne ku k1 (by decide) b hb hs)
  refine h _ w' ⟨cs ++ [.slice Au g.2.2.length cu], ⟨n0, ?_, n2.app nu (by have := row_len k1; omega)⟩, ?_⟩ ((hba.mono hlo).trans (hc.below hsz (fun b hb => (World.ownsRow.lt k1 b hb).1))) hc' ?_
  · simpa using r
  · refine Dis.cons (hd.tail.tail.app (fun i hi => (duc i hi).symm)) (fun i hi => ?_)
    rw [List.length_append, List.length_singleton] at hi
    by_cases e : i < cs.length
    · rw [gv_app_lt e]; exact d0c i e
    · obtain rfl : i = cs.length := by omega
      rw [gv_app_eq]
      exact d0u
  · intro b hb
    simp [Value.ownBlock] at hb
    subst hb
    rcases hat with h | h
    · exact .inl h
    · right; simp at h; omega
theorem wpList_pushU {ops : Array Oper} {rest : List Oper} {o : Oper} {a : Act} {Q : Exit → Act → World → Prop} (hgd : o.guard = none) (s x : Operand)
    (ho : o.op = .call { callee := .builtin .append, args := #[s, x], argTypes := #[28, 28] })
    (w : World) (lo : Nat) (s0 s1 u : Value) (g : ParD) (hs : a.eval s = s1) (hx : a.eval x = .slice (some ⟨w.heap.size, 0, none⟩) 1 1)
    (hlo : lo ≤ w.heap.size) (hown : OPar w lo s0 s1 u g) (hn : g.2.1.length ≤ 4194304)
    (h : ∀ t1 w', OArn w' lo s0 t1 (g.1, g.2.1 ++ [g.2.2]) → Below lo w w' → Chg (fun b => s1.ownBlock = some b) w w' → (∀ b, t1.ownBlock = some b → s1.ownBlock = some b ∨ w.heap.size ≤ b) → wpList Try.prog ops Q rest (a.put o.dst t1) w') : wpList Try.prog ops Q (o :: rest) a (w.alloc (.cells #[u] 27)) :=
  wpList_plain hgd fun _ hK => wp_pushU s x ho w lo s0 s1 u g hs hx hlo hown hn fun t1 w' h1 h2 h3 h4 => hK _ _ (h t1 w' h1 h2 h3 h4)

/-- an arena by dice, as far as vertex k -/
def arUp (n : Int) (z : ArD) (k : Nat) : Prop := z.1.length = k ∧ z.2.length = k ∧ ∀ v, v < k → (0 ≤ gi z.1 v ∧ gi z.1 v ≤ 1) ∧ 1 ≤ (gl z.2 v).length ∧ setB (gl z.2 v) n = true
theorem arUp_zero (n : Int) : arUp n ([], []) 0 := ⟨rfl, rfl, fun v hv => absurd hv (by omega)⟩
theorem arUp_succ {n x : Int} {z : ArD} {k : Nat} {ys : List Int} (h : arUp n z k) (hx : 0 ≤ x ∧ x < 2) (hy : 1 ≤ ys.length) (hs : setB ys n = true) : arUp n (z.1 ++ [x], z.2 ++ [ys]) (k + 1) := by
  obtain ⟨h1, h2, h3⟩ := h
  refine ⟨by rw [List.length_append, h1]; rfl, by rw [List.length_append, h2]; rfl, fun v hv => ?_⟩
  by_cases e : v < k
  · show (0 ≤ gi (z.1 ++ [x]) v ∧ gi (z.1 ++ [x]) v ≤ 1) ∧ 1 ≤ (gl (z.2 ++ [ys]) v).length ∧ setB (gl (z.2 ++ [ys]) v) n = true
    rw [gi_app_lt (by omega)]
    rw [show gl (z.2 ++ [ys]) v = gl z.2 v by simp [gl, List.getElem?_append_left (show v < z.2.length by omega)]]
    exact h3 v e
  · obtain rfl : v = k := by omega
    show (0 ≤ gi (z.1 ++ [x]) v ∧ gi (z.1 ++ [x]) v ≤ 1) ∧ 1 ≤ (gl (z.2 ++ [ys]) v).length ∧ setB (gl (z.2 ++ [ys]) v) n = true
    rw [show gi (z.1 ++ [x]) v = x by rw [← h1]; exact gi_app_eq]
    rw [show gl (z.2 ++ [ys]) v = ys by rw [← h2]; simp [gl]]
    exact ⟨⟨hx.1, by omega⟩, hy, hs⟩
theorem set_short {xs : List Int} {n : Nat} (h : setB xs (n : Int) = true) : xs.length ≤ n := by have := set_len h (by omega); omega
theorem arUp_ok {n : Nat} {z : ArD} (h : arUp (n : Int) z n) (h1 : 1 ≤ n) (h2 : n ≤ 16) : arB z.1 z.2 = true := by
  obtain ⟨k1, k2, k3⟩ := h
  refine arB_of k1 ⟨h1, by omega, k2⟩ fun v hv => vOk_iff.2 ?_
  obtain ⟨m1, m2, m3⟩ := k3 v hv
  rw [k1]
  have := set_short m3
  exact ⟨m1, ⟨m2, by omega⟩, m3⟩
theorem listM_pos {ms : List Bool} (h : ∃ v, gb ms v = true) : 1 ≤ (listM ms).length := by
  obtain ⟨v, hv⟩ := h
  have hl := gb_lt hv
  have : (v : Int) ∈ listM ms := mem_listM.2 ⟨v, hl, hv, rfl⟩
  exact List.length_pos_of_mem this

/-- an arena by dice -/
def ArenaBy (w0 w : World) (b : Nat) (most : Int) (e : Ending) (w' : World) : Prop :=
  ∃ s0 s1 z, e = .returned (.agg #[s0, s1]) ∧ (arB z.1 z.2 = true ∧ (z.1.length : Int) ≤ most) ∧ OArn w' w.heap.size s0 s1 z ∧ DiceAt w0 w' b ∧ Chg (fun y => y = b) w w'

theorem OB.chg {E : TypeId} {S : Nat → Prop} {w w' : World} {lo : Nat} {v : Value} {xs : List Bool} (h : OB E w lo v xs) (hc : Chg S w w') (hS : ∀ b, v.ownBlock = some b → ¬ S b) : OB E w' lo v xs := row_chg h hc hS
set_option maxRecDepth 100000 in
set_option maxHeartbeats 1600000 in
theorem w6Arena (w0 w : World) (b : Nat) (most : Int) (hd : DiceAt w0 w b) (h0 : 1 ≤ most) (hn : most ≤ 16) :
    Calls Try.prog 16 #[.pointer (some ⟨b, 0, none⟩), .int .i64 most] w (ArenaBy w0 w b most) := by
  have hdl := hd.lt
  have hba : Below w.heap.size w (w.alloc (.cells #[.slice none 0 0, .slice none 0 0] 30)) := below_alloc (Nat.le_refl _) (Below.refl _ _)
  have bz := Box.new w 30 #[.slice none 0 0, .slice none 0 0]
  go_enter Try.func16, Try.ntmps16
  go_wp2_with fail
  refine (below w0 _ b most (hd.on hba) h0).mono ?_; rintro e w1 ⟨x, rfl, hx, hd1, hc1⟩
  obtain ⟨x', rfl⟩ := Int.eq_ofNat_of_zero_le hx.1
  have hca : Chg (fun y => y = b) w w1 := chg_then ((Chg.refl _ _).alloc _) hc1
  replace bz : Box w1 w.heap.size 30 #[.slice none 0 0, .slice none 0 0] := (hc1.block _ bz.lt (fun e => by have h3 : w.heap.size = b := e; omega)).trans bz
  have hx16 : x' < 16 := by omega
  obtain ⟨m, hxm⟩ : ∃ m : Nat, 1 + (x' : Int) = (m : Int) := ⟨x' + 1, by omega⟩
  have HX := Lib.hid (show (m : Int) ≤ most by omega)
  have hm1 : 1 ≤ m := by omega
  have hm2 : m ≤ 16 := by omega
  go_wp2
  try simp only [hxm]
  have hs1 := hca.size
  have hs01 : w.heap.size < w1.heap.size := bz.lt
  go_loopw [7] (fun i wr => ∃ (k : Nat) (s0 s1 : Value) (z : ArD), k ≤ m ∧ i = .int .i64 k ∧ arUp (m : Int) z k ∧ Box wr w.heap.size 30 #[.slice none 0 0, .slice none 0 0] ∧ Box wr w1.heap.size 30 #[s0, s1] ∧ OArn wr (w1.heap.size + 1) s0 s1 z ∧ DiceAt w0 wr b ∧ Chg (fun y => y = b) w wr) (fun i _ => m - (intOf i).toNat)
  case atStart => exact ⟨0, _, _, ([], []), Nat.zero_le _, rfl, arUp_zero _, bz.alloc _, Box.new _ _ _, OArn.nil _ _, hd1.on (below_alloc (Nat.le_refl _) (Below.refl _ _)), hca.alloc _⟩
  case round =>
    clear bz hd1 hca hc1 hd hba
    obtain ⟨k, s0, s1, z, hk, rfl, hz, bz, bx, ho, hdr, hc⟩ := hrel
    have HZ := Lib.hid hz
    have hz1 := hz.1; have hz2 := hz.2.1
    clear hz
    by_cases hlt : k < m
    · have hki : (k : Int) < (m : Int) := by omega
      obtain ⟨A0, c0, A1, c1, rfl, rfl⟩ := ho.form
      generalize wr = wo at *
      have hbo := bx.lt
      have hso := hc.size
      go_wp2_with (refine wpList_makeB rfl (.tmp 22) rfl _ m rfl (by omega) ?_; intro w3 hin hb3)
      have hd3 := hdr.on hb3
      refine (below w0 _ b 3 hd3 (by omega)).mono ?_; rintro e w4 ⟨x2, rfl, hx2, hd4, hc4⟩
      have hin4 := hin.chg hc4 (fun y hy e => by have h1 := hin.lt y hy; have h3 : y = b := e; have := hdr.lt; omega)
      have hcw4 := chg_then ((Chg.refl (fun y => y = b) wo).then_below hb3 (Nat.le_refl _)) hc4
      obtain ⟨t0, ht0⟩ : ∃ t0 : Nat, 1 + x2 = (t0 : Int) := ⟨(1 + x2).toNat, by omega⟩
      have ht1 : 1 ≤ t0 := by omega
      have ht3 : t0 ≤ 3 := by omega
      have hgo : wo.heap.size < w4.heap.size := (hin4.lt _ rfl).2
      clear hd3 hc4 hin
      go_wp2
      try simp only [ht0]
      go_loopw [9] (fun i wr => ∃ (t : Nat) (ms : List Bool), t ≤ 3 ∧ i = .int .i64 t ∧ ms.length = m ∧ (t = t0 ∨ ∃ v, gb ms v = true) ∧ OB 4 wr wo.heap.size (.slice (some ⟨wo.heap.size, 0, none⟩) m m) ms ∧ DiceAt w0 wr b ∧ Chg (fun y => y = b) wo wr) (fun i _ => (intOf i).toNat)
      case atStart => exact ⟨t0, _, ht3, rfl, by simp, .inl rfl, hin4, hd4, hcw4⟩
      case round =>
        clear hin4 hd4 hcw4 hgo
        obtain ⟨t, ms, ht, rfl, hml, hex, hin, hdr2, hcw⟩ := hrel
        have HEX := Lib.hid hex
        clear hex
        have hgo : wo.heap.size < wr.heap.size := (hin.lt _ rfl).2
        by_cases htp : 0 < t
        · have hti : (0 : Int) < (t : Int) := by omega
          go_wp2_with fail
          refine (below w0 _ b m hdr2 (by omega)).mono ?_; rintro e w5 ⟨y, rfl, hy, hd5, hc5⟩
          obtain ⟨y', rfl⟩ := Int.eq_ofNat_of_zero_le hy.1
          have hyl : (y' : Int) < (m : Int) := hy.2
          have hy0 : (0 : Int) ≤ (y' : Int) := by omega
          have hin5 := hin.chg hc5 (fun y hy e => by have h1 := hin.lt y hy; have h3 : y = b := e; have := hdr.lt; omega)
          have hcx := hin5.atx (i := y') (by omega)
          have hfx := hin5.hot (i := y') hml.symm
          clear hy
          go_wp2
          go_roundw
          case rel => exact ⟨t - 1, _, by omega, by rw [show ((t - 1 : Nat) : Int) = (t : Int) - 1 by omega], by rw [List.length_set]; exact hml, .inr ⟨y', by rw [gb_set (by omega), if_pos rfl]⟩, hin5.set_ hml.symm true, hd5.chg (Chg.set ⟨wo.heap.size, y', none⟩ _) (fun x hx => by have h3 : x = wo.heap.size := hx; have := hdr.lt; omega), (chg_then hcw hc5).push (Chg.set ⟨wo.heap.size, y', none⟩ _) (fun x hx => .inr (by have h3 : x = wo.heap.size := hx; omega))⟩
          case measure => simp [intOf]; omega
        · obtain rfl : t = 0 := by omega
          rw [show ((0 : Nat) : Int) = 0 from rfl]
          have HV := Lib.hid (show ∃ v, gb ms v = true from HEX.out.resolve_left (by omega))
          generalize wr = w5 at *
          have hem := OI.empty (E := 2) (w := w5) (B := w5.heap.size) (Nat.le_refl _)
          have hbe : Below w5.heap.size w5 (w5.alloc (.cells #[] 2)) := below_alloc (Nat.le_refl _) (Below.refl _ _)
          go_wp2
          go_loopw [10, 11] (fun v i wr => ∃ k2 : Nat, k2 ≤ m ∧ i = .int .i64 k2 ∧ OI 2 wr w5.heap.size v (listUp ms k2) ∧ OB 4 wr wo.heap.size (.slice (some ⟨wo.heap.size, 0, none⟩) m m) ms ∧ DiceAt w0 wr b ∧ Chg (fun y => y = b) wo wr ∧ w5.heap.size ≤ wr.heap.size) (fun _ i _ => m - (intOf i).toNat)
          case atStart => exact ⟨0, Nat.zero_le _, rfl, hem, hin.below hbe, hdr2.on hbe, hcw.then_below hbe (by omega), by simp⟩
          case round =>
            clear hem hbe hin hdr2 hcw
            obtain ⟨k2, hk2, rfl, hov, hin, hdr2, hcw, hs5⟩ := hrel
            have hlu : (listUp ms k2).length ≤ k2 := pick_len _ _ _
            by_cases hl2 : k2 < m
            · have hcx := hin.atx (i := k2) (by omega)
              have hk2i : (k2 : Int) < (m : Int) := by omega
              have hk20 : (0 : Int) ≤ (k2 : Int) := by omega
              cases hg : gb ms k2 with
              | true =>
                rw [hg] at hcx
                have X := Lib.hid (show listUp ms (k2 + 1) = listUp ms k2 ++ [(k2 : Int)] from pick_yes hg)
                clear hg
                go_wp2_with (at_builtin; refine wpList_pushI rfl (.tmp 46) (.tmp 48) rfl _ w5.heap.size u10 (listUp ms k2) (by rfl) hov _ (by rfl) (by omega) hs5 ?_; intro v2 w2 ho2 hb2 hc2 hat2)
                go_wp2
                go_roundw
                case rel =>
                  have hin2 := hin.chg hc2 (fun y hy e => by
                    have h1 := (hov.lt y e).1
                    simp [Value.ownBlock] at hy
                    omega)
                  exact ⟨k2 + 1, by omega, by go_num, by rw [X.out]; exact ho2, hin2, hdr2.chg hc2 (fun y hy => by have := (hov.lt y hy).1; have := hdr.lt; omega), hcw.push hc2 (fun y hy => .inr (by have := (hov.lt y hy).1; omega)), Nat.le_trans hs5 hc2.size⟩
                case measure => simp [intOf]; omega
              | false =>
                rw [hg] at hcx
                have X := Lib.hid (show listUp ms (k2 + 1) = listUp ms k2 from pick_no hg)
                clear hg
                go_wp2
                go_roundw
                case rel => exact ⟨k2 + 1, by omega, by go_num, by rw [X.out]; exact hov, hin, hdr2, hcw, hs5⟩
                case measure => simp [intOf]; omega
            · obtain rfl : m = k2 := by omega
              have XL := Lib.hid (show listUp ms m = listM ms by unfold listM; rw [hml])
              rw [XL.out] at hov
              obtain ⟨Av, cv, rfl⟩ := hov.form
              have hlo : w1.heap.size + 1 ≤ wo.heap.size := hbo
              have hblo : b < w1.heap.size := by omega
              have hop := OPar.ofArn ho hlo hcw (fun y hy => by have h3 : y = b := hy; omega) (hov.more (by omega))
              have bz2 : Box wr w.heap.size 30 #[.slice none 0 0, .slice none 0 0] := (hcw.block _ bz.lt (fun e => by have h3 : w.heap.size = b := e; omega)).trans bz
              have bx2 : Box wr w1.heap.size 30 #[.slice A0 z.1.length c0, .slice A1 z.2.length c1] := (hcw.block _ bx.lt (fun e => by have h3 : w1.heap.size = b := e; omega)).trans bx
              have hcc := hc.push hcw (fun y hy => .inl hy)
              have hpos := listM_pos HV.out
              have hset : setB (listM ms) (m : Int) = true := listM_set hml
              have HP := Lib.hid hpos
              have HS := Lib.hid hset
              have hlw : w1.heap.size + 1 ≤ wr.heap.size := by have := hcw.size; omega
              have hkz : z.2.length ≤ 4194304 := by omega
              have hkz1 : z.1.length ≤ 4194304 := by omega
              clear hin hov hcw ho bz bx hs5 hlu hc hpos hset hgo hbo HEX hz1 hz2
              go_wp2_with fail
              refine wp_region_held_drew (S := fun _ => True) (by kernel_rfl) trivial (fun hHeld => ?_)
              replace hop := hop.below (Below.drew (Below.refl _ _))
              replace bz2 : Box wr.drew _ _ _ := bz2
              replace bx2 : Box wr.drew _ _ _ := bx2
              replace hdr2 := hdr2.on (Below.drew (Below.refl _ _))
              replace hcc : Chg (fun y => y = b) w wr.drew := hcc.drewN 1
              replace hlw : w1.heap.size + 1 ≤ wr.drew.heap.size := hlw
              generalize wr.drew = wD at *
              have g0 := bx2.d0
              refine takeH0 (v := ?_) (by kernel_rfl) (by kernel_rfl) (by kernel_rfl) (fun _ _ _ h => h) hHeld (by rfl) ?_ ?_
              rotate_left; · (intro w hSw; (try dsimp only at hSw); go_simp; try with_reducible rfl)
              try simp only [Act.put, List.setIfInBounds_toArray, List.set_cons_zero, List.set_cons_succ]
              refine takeH2 (v := ?_) (by kernel_rfl) (by kernel_rfl) (by kernel_rfl) (fun _ _ _ h => h) hHeld (by rfl) ?_ ?_
              rotate_left; · (intro w hSw; (try dsimp only at hSw); go_simp; try with_reducible rfl)
              try simp only [Act.put, List.setIfInBounds_toArray, List.set_cons_zero, List.set_cons_succ]
              refine twoH_1_3 (by kernel_rfl) (fun K hK => ?_) (fun K hK => ?_)
              · go_simp
                refine hK.out _ _ (trivial) (fun hHeld => ?_)
                clear hK K
                try simp only [Act.put, List.setIfInBounds_toArray, List.set_cons_zero, List.set_cons_succ]
                refine callH3 (by kernel_rfl) (fun K hK => ?_)
                go_simp
                go_at_call 10
                refine (below w0 _ b 2 hdr2 (by omega)).mono ?_; rintro e w6 ⟨x, rfl, hx6, hd6, hc6⟩
                have bx6 : Box w6 w1.heap.size 30 #[.slice A0 z.1.length c0, .slice A1 z.2.length c1] := (hc6.block _ bx2.lt (fun e => by have h3 : w1.heap.size = b := e; omega)).trans bx2
                have bz6 : Box w6 w.heap.size 30 #[.slice none 0 0, .slice none 0 0] := (hc6.block _ bz2.lt (fun e => by have h3 : w.heap.size = b := e; omega)).trans bz2
                have g06 := bx6.d0
                have hop6 := hop.chg hc6 (fun y hy => by have h3 : y = b := hy; omega)
                have hcc6 := chg_then hcc hc6
                have hl6 : w1.heap.size + 1 ≤ w6.heap.size := Nat.le_trans hlw hc6.size
                go_wp2_with fail
                refine hK.out _ _ (trivial) (fun hHeld => ?_)
                clear hK K
                try simp only [Act.put, List.setIfInBounds_toArray, List.set_cons_zero, List.set_cons_succ]
                refine callH4 (by kernel_rfl) (fun K hK => ?_)
                go_simp
                refine hK.out _ _ (trivial) (fun hHeld => ?_)
                clear hK K
                try simp only [Act.put, List.setIfInBounds_toArray, List.set_cons_zero, List.set_cons_succ]
                refine callH5 (by kernel_rfl) (fun K hK => ?_)
                have hbA : Below w6.heap.size w6 (w6.alloc (.cells #[.int .i64 x] 2)) := below_alloc (Nat.le_refl _) (Below.refl _ _)
                have hq1 : RI (w6.alloc (.cells #[.int .i64 x] 2)) (some ⟨w6.heap.size, 0, none⟩) 1 1 [x] := RI.one1 ((Box.new w6 2 #[.int .i64 x]).cell 0)
                have hopA := hop6.below hbA
                have hoA : OI 2 (w6.alloc (.cells #[.int .i64 x] 2)) (w1.heap.size + 1) (.slice A0 z.1.length c0) z.1 := by obtain ⟨cs, h1, _⟩ := hopA; exact h1.1
                have hlA : w1.heap.size + 1 ≤ (w6.alloc (.cells #[.int .i64 x] 2)).heap.size := Nat.le_trans hl6 hbA.size
                refine step_of_list (by rfl) (wp_appI (.tmp 51) (.tmp 54) (by rfl) (w6.alloc (.cells #[.int .i64 x] 2)) (w1.heap.size + 1) (.slice A0 z.1.length c0) z.1 (by rfl) hoA (some ⟨w6.heap.size, 0, none⟩) 1 1 [x] (by rfl) hq1 hkz1 (by omega) hlA ?_)
                intro v7 w7 ho7 hb7 hc7 hat7
                obtain ⟨A7, c7, rfl⟩ := ho7.form
                rw [List.length_append, List.length_singleton] at ho7 ⊢
                simp only [List.length_append, List.length_singleton] at hat7
                have hown : ∀ y, (Value.slice A0 z.1.length c0).ownBlock = some y → w1.heap.size + 1 ≤ y := fun y hy => (hoA.lt y hy).1
                have hop7 := hopA.put0 hc7 ho7 hat7
                have bx7 : Box w7 w1.heap.size 30 #[.slice A0 z.1.length c0, .slice A1 z.2.length c1] := (hc7.block _ (bx6.alloc _).lt (fun e => by have := hown _ e; omega)).trans (bx6.alloc _)
                have bz7 : Box w7 w.heap.size 30 #[.slice none 0 0, .slice none 0 0] := (hc7.block _ (bz6.alloc _).lt (fun e => by have := hown _ e; omega)).trans (bz6.alloc _)
                have hd7 := (hd6.on hbA).chg hc7 (fun y hy => by have := hown y hy; omega)
                have hcc7 := (hcc6.then_below hbA (by omega)).push hc7 (fun y hy => .inr (by have := hown y hy; omega))
                have g07 := bx7.d0
                have f07 := bx7.hot 0
                have hl7 := Nat.le_trans hlA hc7.size
                clear hop hop6 hopA hoA hq1 bz2 bx2 bx6 bz6 hdr2 hd6 hcc hcc6 hc6 hbA hat7
                refine hK.out _ _ (trivial) (fun hHeld => ?_)
                clear hK K
                try simp only [Act.put, List.setIfInBounds_toArray, List.set_cons_zero, List.set_cons_succ]
                refine takeH6 (v := ?_) (by kernel_rfl) (by kernel_rfl) (by kernel_rfl) (fun _ _ _ h => h) hHeld (by rfl) ?_ ?_
                rotate_left; · (intro w hSw; (try dsimp only at hSw); go_simp; try with_reducible rfl)
                try simp only [Act.put, List.setIfInBounds_toArray, List.set_cons_zero, List.set_cons_succ]
                refine callH7 (by kernel_rfl) (fun K hK => ?_)
                go_simp
                refine hK.out _ _ (trivial) (fun hHeld => ?_)
                clear hK K
                try simp only [Act.put, List.setIfInBounds_toArray, List.set_cons_zero, List.set_cons_succ]
                refine wpAnyH_done (by kernel_rfl) ?_ _
                have ch8 : Chg (fun y => y = w1.heap.size) w7 (w7.setCell ⟨w1.heap.size, 0, none⟩ (.slice A7 (z.1.length + 1) c7)) := Chg.set ⟨w1.heap.size, 0, none⟩ (.slice A7 (z.1.length + 1) c7)
                have bx8 : Box (w7.setCell ⟨w1.heap.size, 0, none⟩ (.slice A7 (z.1.length + 1) c7)) w1.heap.size 30 #[.slice A7 (z.1.length + 1) c7, .slice A1 z.2.length c1] := bx7.set_ 0 (.slice A7 (z.1.length + 1) c7)
                have bz8 : Box (w7.setCell ⟨w1.heap.size, 0, none⟩ (.slice A7 (z.1.length + 1) c7)) w.heap.size 30 #[.slice none 0 0, .slice none 0 0] := bz7.far (by show w.heap.size ≠ w1.heap.size; omega) _
                have hop8 := hop7.chg ch8 (fun y hy => by omega)
                have hd8 := hd7.chg ch8 (fun y hy => by omega)
                have hcc8 := hcc7.push ch8 (fun y hy => .inr (by omega))
                have g18 := bx8.d1
                have hl8 := Nat.le_trans hl7 ch8.size
                clear hop7 hd7 hcc7 ch8 bx7 bz7 g07 f07 g0 g06
                generalize w7.setCell ⟨w1.heap.size, 0, none⟩ (.slice A7 (z.1.length + 1) c7) = w8 at *
                go_wp2_with (at_builtin; go_loud (refine wpList_pushU rfl (.tmp 58) (.tmp 60) (by rfl) w8 (w1.heap.size + 1) (.slice A7 (z.1.length + 1) c7) (.slice A1 z.2.length c1) (.slice Av (listM ms).length cv) (z.1 ++ [x], z.2, listM ms) (by rfl) (by rfl) hl8 hop8 hkz ?_; intro t1 w9 ho9 hb9 hc9 hat9; obtain ⟨A8, c8, A9, c9, h0e9, h1e9⟩ := ho9.form; have h1e : t1 = .slice A9 (z.2.length + 1) c9 := (by rw [h1e9]; simp); clear h0e9 h1e9 hat9; subst h1e; have hown9 : ∀ y, (Value.slice A1 z.2.length c1).ownBlock = some y → w1.heap.size + 1 ≤ y := fun y hy => hop8.oldA y (.inr (.inl hy)); have bx9 : Box w9 w1.heap.size 30 #[.slice A7 (z.1.length + 1) c7, .slice A1 z.2.length c1] := (hc9.block _ bx8.lt (fun e => by have := hown9 _ e; omega)).trans bx8; have g9 := bx9.d1; have f9 := bx9.hot 1))
                have hl9 := hc9.size
                have ch9 : Chg (fun y => y = w1.heap.size) w9 (w9.setCell ⟨w1.heap.size, 1, none⟩ (.slice A9 (z.2.length + 1) c9)) := Chg.set ⟨w1.heap.size, 1, none⟩ (.slice A9 (z.2.length + 1) c9)
                have bzF : Box (w9.setCell ⟨w1.heap.size, 1, none⟩ (.slice A9 (z.2.length + 1) c9)) w.heap.size 30 #[.slice none 0 0, .slice none 0 0] := Box.far ((hc9.block _ bz8.lt (fun e => by have := hown9 _ e; omega)).trans bz8) (by show w.heap.size ≠ w1.heap.size; omega) _
                have hoF := ho9.chg ch9 (fun y hy => by omega)
                have hdF := (hd8.chg hc9 (fun y hy => by have := hown9 y hy; omega)).chg ch9 (fun y hy => by omega)
                have hccF := (hcc8.push hc9 (fun y hy => .inr (by have := hown9 y hy; omega))).push ch9 (fun y hy => .inr (by omega))
                exact ⟨⟨k + 1, _, _, (z.1 ++ [x], z.2 ++ [listM ms]), by omega, by go_num, arUp_succ HZ.out hx6 HP.out HS.out, bzF, bx9.set_ 1 (.slice A9 (z.2.length + 1) c9), hoF, hdF, hccF⟩, by simp [intOf]; omega⟩
              · go_simp
                go_at_call 10
                refine (below w0 _ b 2 hdr2 (by omega)).mono ?_; rintro e w6 ⟨x, rfl, hx6, hd6, hc6⟩
                have bx6 : Box w6 w1.heap.size 30 #[.slice A0 z.1.length c0, .slice A1 z.2.length c1] := (hc6.block _ bx2.lt (fun e => by have h3 : w1.heap.size = b := e; omega)).trans bx2
                have bz6 : Box w6 w.heap.size 30 #[.slice none 0 0, .slice none 0 0] := (hc6.block _ bz2.lt (fun e => by have h3 : w.heap.size = b := e; omega)).trans bz2
                have g06 := bx6.d0
                have hop6 := hop.chg hc6 (fun y hy => by have h3 : y = b := hy; omega)
                have hcc6 := chg_then hcc hc6
                have hl6 : w1.heap.size + 1 ≤ w6.heap.size := Nat.le_trans hlw hc6.size
                have g0A : ∀ o, (w6.alloc o).cell? ⟨w1.heap.size, 0, none⟩ = some (.slice A0 z.1.length c0) := fun o => keepA g06
                go_wp2_with fail
                refine hK.out _ _ (trivial) (fun hHeld => ?_)
                clear hK K
                try simp only [Act.put, List.setIfInBounds_toArray, List.set_cons_zero, List.set_cons_succ]
                refine twoH_1_4 (by kernel_rfl) (fun K hK => ?_) (fun K hK => ?_)
                · go_simp
                  refine hK.out _ _ (trivial) (fun hHeld => ?_)
                  clear hK K
                  try simp only [Act.put, List.setIfInBounds_toArray, List.set_cons_zero, List.set_cons_succ]
                  refine callH4 (by kernel_rfl) (fun K hK => ?_)
                  go_simp
                  refine hK.out _ _ (trivial) (fun hHeld => ?_)
                  clear hK K
                  try simp only [Act.put, List.setIfInBounds_toArray, List.set_cons_zero, List.set_cons_succ]
                  refine callH5 (by kernel_rfl) (fun K hK => ?_)
                  have hbA : Below w6.heap.size w6 (w6.alloc (.cells #[.int .i64 x] 2)) := below_alloc (Nat.le_refl _) (Below.refl _ _)
                  have hq1 : RI (w6.alloc (.cells #[.int .i64 x] 2)) (some ⟨w6.heap.size, 0, none⟩) 1 1 [x] := RI.one1 ((Box.new w6 2 #[.int .i64 x]).cell 0)
                  have hopA := hop6.below hbA
                  have hoA : OI 2 (w6.alloc (.cells #[.int .i64 x] 2)) (w1.heap.size + 1) (.slice A0 z.1.length c0) z.1 := by obtain ⟨cs, h1, _⟩ := hopA; exact h1.1
                  have hlA : w1.heap.size + 1 ≤ (w6.alloc (.cells #[.int .i64 x] 2)).heap.size := Nat.le_trans hl6 hbA.size
                  refine step_of_list (by rfl) (wp_appI (.tmp 51) (.tmp 54) (by rfl) (w6.alloc (.cells #[.int .i64 x] 2)) (w1.heap.size + 1) (.slice A0 z.1.length c0) z.1 (by rfl) hoA (some ⟨w6.heap.size, 0, none⟩) 1 1 [x] (by rfl) hq1 hkz1 (by omega) hlA ?_)
                  intro v7 w7 ho7 hb7 hc7 hat7
                  obtain ⟨A7, c7, rfl⟩ := ho7.form
                  rw [List.length_append, List.length_singleton] at ho7 ⊢
                  simp only [List.length_append, List.length_singleton] at hat7
                  have hown : ∀ y, (Value.slice A0 z.1.length c0).ownBlock = some y → w1.heap.size + 1 ≤ y := fun y hy => (hoA.lt y hy).1
                  have hop7 := hopA.put0 hc7 ho7 hat7
                  have bx7 : Box w7 w1.heap.size 30 #[.slice A0 z.1.length c0, .slice A1 z.2.length c1] := (hc7.block _ (bx6.alloc _).lt (fun e => by have := hown _ e; omega)).trans (bx6.alloc _)
                  have bz7 : Box w7 w.heap.size 30 #[.slice none 0 0, .slice none 0 0] := (hc7.block _ (bz6.alloc _).lt (fun e => by have := hown _ e; omega)).trans (bz6.alloc _)
                  have hd7 := (hd6.on hbA).chg hc7 (fun y hy => by have := hown y hy; omega)
                  have hcc7 := (hcc6.then_below hbA (by omega)).push hc7 (fun y hy => .inr (by have := hown y hy; omega))
                  have g07 := bx7.d0
                  have f07 := bx7.hot 0
                  have hl7 := Nat.le_trans hlA hc7.size
                  clear hop hop6 hopA hoA hq1 bz2 bx2 bx6 bz6 hdr2 hd6 hcc hcc6 hc6 hbA hat7
                  refine hK.out _ _ (trivial) (fun hHeld => ?_)
                  clear hK K
                  try simp only [Act.put, List.setIfInBounds_toArray, List.set_cons_zero, List.set_cons_succ]
                  refine takeH6 (v := ?_) (by kernel_rfl) (by kernel_rfl) (by kernel_rfl) (fun _ _ _ h => h) hHeld (by rfl) ?_ ?_
                  rotate_left; · (intro w hSw; (try dsimp only at hSw); go_simp; try with_reducible rfl)
                  try simp only [Act.put, List.setIfInBounds_toArray, List.set_cons_zero, List.set_cons_succ]
                  refine callH7 (by kernel_rfl) (fun K hK => ?_)
                  go_simp
                  refine hK.out _ _ (trivial) (fun hHeld => ?_)
                  clear hK K
                  try simp only [Act.put, List.setIfInBounds_toArray, List.set_cons_zero, List.set_cons_succ]
                  refine wpAnyH_done (by kernel_rfl) ?_ _
                  have ch8 : Chg (fun y => y = w1.heap.size) w7 (w7.setCell ⟨w1.heap.size, 0, none⟩ (.slice A7 (z.1.length + 1) c7)) := Chg.set ⟨w1.heap.size, 0, none⟩ (.slice A7 (z.1.length + 1) c7)
                  have bx8 : Box (w7.setCell ⟨w1.heap.size, 0, none⟩ (.slice A7 (z.1.length + 1) c7)) w1.heap.size 30 #[.slice A7 (z.1.length + 1) c7, .slice A1 z.2.length c1] := bx7.set_ 0 (.slice A7 (z.1.length + 1) c7)
                  have bz8 : Box (w7.setCell ⟨w1.heap.size, 0, none⟩ (.slice A7 (z.1.length + 1) c7)) w.heap.size 30 #[.slice none 0 0, .slice none 0 0] := bz7.far (by show w.heap.size ≠ w1.heap.size; omega) _
                  have hop8 := hop7.chg ch8 (fun y hy => by omega)
                  have hd8 := hd7.chg ch8 (fun y hy => by omega)
                  have hcc8 := hcc7.push ch8 (fun y hy => .inr (by omega))
                  have g18 := bx8.d1
                  have hl8 := Nat.le_trans hl7 ch8.size
                  clear hop7 hd7 hcc7 ch8 bx7 bz7 g07 f07 g0 g06
                  generalize w7.setCell ⟨w1.heap.size, 0, none⟩ (.slice A7 (z.1.length + 1) c7) = w8 at *
                  go_wp2_with (at_builtin; go_loud (refine wpList_pushU rfl (.tmp 58) (.tmp 60) (by rfl) w8 (w1.heap.size + 1) (.slice A7 (z.1.length + 1) c7) (.slice A1 z.2.length c1) (.slice Av (listM ms).length cv) (z.1 ++ [x], z.2, listM ms) (by rfl) (by rfl) hl8 hop8 hkz ?_; intro t1 w9 ho9 hb9 hc9 hat9; obtain ⟨A8, c8, A9, c9, h0e9, h1e9⟩ := ho9.form; have h1e : t1 = .slice A9 (z.2.length + 1) c9 := (by rw [h1e9]; simp); clear h0e9 h1e9 hat9; subst h1e; have hown9 : ∀ y, (Value.slice A1 z.2.length c1).ownBlock = some y → w1.heap.size + 1 ≤ y := fun y hy => hop8.oldA y (.inr (.inl hy)); have bx9 : Box w9 w1.heap.size 30 #[.slice A7 (z.1.length + 1) c7, .slice A1 z.2.length c1] := (hc9.block _ bx8.lt (fun e => by have := hown9 _ e; omega)).trans bx8; have g9 := bx9.d1; have f9 := bx9.hot 1))
                  have hl9 := hc9.size
                  have ch9 : Chg (fun y => y = w1.heap.size) w9 (w9.setCell ⟨w1.heap.size, 1, none⟩ (.slice A9 (z.2.length + 1) c9)) := Chg.set ⟨w1.heap.size, 1, none⟩ (.slice A9 (z.2.length + 1) c9)
                  have bzF : Box (w9.setCell ⟨w1.heap.size, 1, none⟩ (.slice A9 (z.2.length + 1) c9)) w.heap.size 30 #[.slice none 0 0, .slice none 0 0] := Box.far ((hc9.block _ bz8.lt (fun e => by have := hown9 _ e; omega)).trans bz8) (by show w.heap.size ≠ w1.heap.size; omega) _
                  have hoF := ho9.chg ch9 (fun y hy => by omega)
                  have hdF := (hd8.chg hc9 (fun y hy => by have := hown9 y hy; omega)).chg ch9 (fun y hy => by omega)
                  have hccF := (hcc8.push hc9 (fun y hy => .inr (by have := hown9 y hy; omega))).push ch9 (fun y hy => .inr (by omega))
                  exact ⟨⟨k + 1, _, _, (z.1 ++ [x], z.2 ++ [listM ms]), by omega, by go_num, arUp_succ HZ.out hx6 HP.out HS.out, bzF, bx9.set_ 1 (.slice A9 (z.2.length + 1) c9), hoF, hdF, hccF⟩, by simp [intOf]; omega⟩
                · go_simp
                  refine hK.out _ _ (trivial) (fun hHeld => ?_)
                  clear hK K
                  try simp only [Act.put, List.setIfInBounds_toArray, List.set_cons_zero, List.set_cons_succ]
                  refine callH1 (by kernel_rfl) (fun K hK => ?_)
                  go_simp
                  refine hK.out _ _ (trivial) (fun hHeld => ?_)
                  clear hK K
                  try simp only [Act.put, List.setIfInBounds_toArray, List.set_cons_zero, List.set_cons_succ]
                  refine callH5 (by kernel_rfl) (fun K hK => ?_)
                  have hbA : Below w6.heap.size w6 (w6.alloc (.cells #[.int .i64 x] 2)) := below_alloc (Nat.le_refl _) (Below.refl _ _)
                  have hq1 : RI (w6.alloc (.cells #[.int .i64 x] 2)) (some ⟨w6.heap.size, 0, none⟩) 1 1 [x] := RI.one1 ((Box.new w6 2 #[.int .i64 x]).cell 0)
                  have hopA := hop6.below hbA
                  have hoA : OI 2 (w6.alloc (.cells #[.int .i64 x] 2)) (w1.heap.size + 1) (.slice A0 z.1.length c0) z.1 := by obtain ⟨cs, h1, _⟩ := hopA; exact h1.1
                  have hlA : w1.heap.size + 1 ≤ (w6.alloc (.cells #[.int .i64 x] 2)).heap.size := Nat.le_trans hl6 hbA.size
                  refine step_of_list (by rfl) (wp_appI (.tmp 51) (.tmp 54) (by rfl) (w6.alloc (.cells #[.int .i64 x] 2)) (w1.heap.size + 1) (.slice A0 z.1.length c0) z.1 (by rfl) hoA (some ⟨w6.heap.size, 0, none⟩) 1 1 [x] (by rfl) hq1 hkz1 (by omega) hlA ?_)
                  intro v7 w7 ho7 hb7 hc7 hat7
                  obtain ⟨A7, c7, rfl⟩ := ho7.form
                  rw [List.length_append, List.length_singleton] at ho7 ⊢
                  simp only [List.length_append, List.length_singleton] at hat7
                  have hown : ∀ y, (Value.slice A0 z.1.length c0).ownBlock = some y → w1.heap.size + 1 ≤ y := fun y hy => (hoA.lt y hy).1
                  have hop7 := hopA.put0 hc7 ho7 hat7
                  have bx7 : Box w7 w1.heap.size 30 #[.slice A0 z.1.length c0, .slice A1 z.2.length c1] := (hc7.block _ (bx6.alloc _).lt (fun e => by have := hown _ e; omega)).trans (bx6.alloc _)
                  have bz7 : Box w7 w.heap.size 30 #[.slice none 0 0, .slice none 0 0] := (hc7.block _ (bz6.alloc _).lt (fun e => by have := hown _ e; omega)).trans (bz6.alloc _)
                  have hd7 := (hd6.on hbA).chg hc7 (fun y hy => by have := hown y hy; omega)
                  have hcc7 := (hcc6.then_below hbA (by omega)).push hc7 (fun y hy => .inr (by have := hown y hy; omega))
                  have g07 := bx7.d0
                  have f07 := bx7.hot 0
                  have hl7 := Nat.le_trans hlA hc7.size
                  clear hop hop6 hopA hoA hq1 bz2 bx2 bx6 bz6 hdr2 hd6 hcc hcc6 hc6 hbA hat7
                  refine hK.out _ _ (trivial) (fun hHeld => ?_)
                  clear hK K
                  try simp only [Act.put, List.setIfInBounds_toArray, List.set_cons_zero, List.set_cons_succ]
                  refine takeH6 (v := ?_) (by kernel_rfl) (by kernel_rfl) (by kernel_rfl) (fun _ _ _ h => h) hHeld (by rfl) ?_ ?_
                  rotate_left; · (intro w hSw; (try dsimp only at hSw); go_simp; try with_reducible rfl)
                  try simp only [Act.put, List.setIfInBounds_toArray, List.set_cons_zero, List.set_cons_succ]
                  refine callH7 (by kernel_rfl) (fun K hK => ?_)
                  go_simp
                  refine hK.out _ _ (trivial) (fun hHeld => ?_)
                  clear hK K
                  try simp only [Act.put, List.setIfInBounds_toArray, List.set_cons_zero, List.set_cons_succ]
                  refine wpAnyH_done (by kernel_rfl) ?_ _
                  have ch8 : Chg (fun y => y = w1.heap.size) w7 (w7.setCell ⟨w1.heap.size, 0, none⟩ (.slice A7 (z.1.length + 1) c7)) := Chg.set ⟨w1.heap.size, 0, none⟩ (.slice A7 (z.1.length + 1) c7)
                  have bx8 : Box (w7.setCell ⟨w1.heap.size, 0, none⟩ (.slice A7 (z.1.length + 1) c7)) w1.heap.size 30 #[.slice A7 (z.1.length + 1) c7, .slice A1 z.2.length c1] := bx7.set_ 0 (.slice A7 (z.1.length + 1) c7)
                  have bz8 : Box (w7.setCell ⟨w1.heap.size, 0, none⟩ (.slice A7 (z.1.length + 1) c7)) w.heap.size 30 #[.slice none 0 0, .slice none 0 0] := bz7.far (by show w.heap.size ≠ w1.heap.size; omega) _
                  have hop8 := hop7.chg ch8 (fun y hy => by omega)
                  have hd8 := hd7.chg ch8 (fun y hy => by omega)
                  have hcc8 := hcc7.push ch8 (fun y hy => .inr (by omega))
                  have g18 := bx8.d1
                  have hl8 := Nat.le_trans hl7 ch8.size
                  clear hop7 hd7 hcc7 ch8 bx7 bz7 g07 f07 g0 g06
                  generalize w7.setCell ⟨w1.heap.size, 0, none⟩ (.slice A7 (z.1.length + 1) c7) = w8 at *
                  go_wp2_with (at_builtin; go_loud (refine wpList_pushU rfl (.tmp 58) (.tmp 60) (by rfl) w8 (w1.heap.size + 1) (.slice A7 (z.1.length + 1) c7) (.slice A1 z.2.length c1) (.slice Av (listM ms).length cv) (z.1 ++ [x], z.2, listM ms) (by rfl) (by rfl) hl8 hop8 hkz ?_; intro t1 w9 ho9 hb9 hc9 hat9; obtain ⟨A8, c8, A9, c9, h0e9, h1e9⟩ := ho9.form; have h1e : t1 = .slice A9 (z.2.length + 1) c9 := (by rw [h1e9]; simp); clear h0e9 h1e9 hat9; subst h1e; have hown9 : ∀ y, (Value.slice A1 z.2.length c1).ownBlock = some y → w1.heap.size + 1 ≤ y := fun y hy => hop8.oldA y (.inr (.inl hy)); have bx9 : Box w9 w1.heap.size 30 #[.slice A7 (z.1.length + 1) c7, .slice A1 z.2.length c1] := (hc9.block _ bx8.lt (fun e => by have := hown9 _ e; omega)).trans bx8; have g9 := bx9.d1; have f9 := bx9.hot 1))
                  have hl9 := hc9.size
                  have ch9 : Chg (fun y => y = w1.heap.size) w9 (w9.setCell ⟨w1.heap.size, 1, none⟩ (.slice A9 (z.2.length + 1) c9)) := Chg.set ⟨w1.heap.size, 1, none⟩ (.slice A9 (z.2.length + 1) c9)
                  have bzF : Box (w9.setCell ⟨w1.heap.size, 1, none⟩ (.slice A9 (z.2.length + 1) c9)) w.heap.size 30 #[.slice none 0 0, .slice none 0 0] := Box.far ((hc9.block _ bz8.lt (fun e => by have := hown9 _ e; omega)).trans bz8) (by show w.heap.size ≠ w1.heap.size; omega) _
                  have hoF := ho9.chg ch9 (fun y hy => by omega)
                  have hdF := (hd8.chg hc9 (fun y hy => by have := hown9 y hy; omega)).chg ch9 (fun y hy => by omega)
                  have hccF := (hcc8.push hc9 (fun y hy => .inr (by have := hown9 y hy; omega))).push ch9 (fun y hy => .inr (by omega))
                  exact ⟨⟨k + 1, _, _, (z.1 ++ [x], z.2 ++ [listM ms]), by omega, by go_num, arUp_succ HZ.out hx6 HP.out HS.out, bzF, bx9.set_ 1 (.slice A9 (z.2.length + 1) c9), hoF, hdF, hccF⟩, by simp [intOf]; omega⟩
    · obtain rfl : m = k := by omega
      obtain ⟨A0, c0, A1, c1, rfl, rfl⟩ := ho.form
      have p0 := bx.d0; have p1 := bx.d1; have e0 := bz.d0; have e1 := bz.d1; have f0 := bz.hot 0; have f1 := bz.hot 1
      have hs2 := hc.size
      have ch : Chg (fun y => y = w.heap.size) wr ((wr.setCell ⟨w.heap.size, 0, none⟩ (.slice A0 z.1.length c0)).setCell ⟨w.heap.size, 1, none⟩ (.slice A1 z.2.length c1)) := (Chg.set (w := wr) ⟨w.heap.size, 0, none⟩ (.slice A0 z.1.length c0)).trans (Chg.set ⟨w.heap.size, 1, none⟩ (.slice A1 z.2.length c1)) (U := fun y => y = w.heap.size) (fun _ h => h) (fun _ h => h)
      have bF : Box ((wr.setCell ⟨w.heap.size, 0, none⟩ (.slice A0 z.1.length c0)).setCell ⟨w.heap.size, 1, none⟩ (.slice A1 z.2.length c1)) w.heap.size 30 #[.slice A0 z.1.length c0, .slice A1 z.2.length c1] := (bz.set_ 0 (.slice A0 z.1.length c0)).set_ 1 (.slice A1 z.2.length c1)
      have R0 := bF.d0
      have R1 := bF.d1
      have fo := ho.chg ch (fun y hy => by omega)
      have fd := hdr.chg ch (fun y hy => by omega)
      have fc := hc.push ch (fun y hy => .inr (by omega))
      have HA := Lib.hid (arUp_ok HZ.out hm1 hm2)
      have HB := Lib.hid (show (z.1.length : Int) ≤ most by rw [HZ.out.1]; exact HX.out)
      clear hz1 hz2
      go_wp2
      exact bodyPost_ret (v := .agg #[.slice A0 z.1.length c0, .slice A1 z.2.length c1]) (by simp [results, Try.results16, go_sem, R0, R1]) rfl ⟨_, _, z, rfl, ⟨HA.out, HB.out⟩, fo.more (by omega), fd, fc⟩
end Go.Proofs.Ytngadlpfheakiaa
