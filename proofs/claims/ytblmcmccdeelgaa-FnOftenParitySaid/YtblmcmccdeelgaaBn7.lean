/- Texts that the proof reaches: SolF, Copy3, Marked, OpP, Two. -/
import Derived.Test.YtblmcmccdeelgaaBn6
import Derived.Deep.DeepCutAuto
namespace Go.Proofs.Ytblmcmccdeelgaa
open Go.RowKit

theorem twoH_7_9 {P : Program} {Q : Exit → Act → World → Prop} {md : Region.Mode} {S : World → Prop} {fuel : Nat} {listed : Array Bool} {a : Act} {w : World} {o0 o1 o2 o3 o4 o5 o6 o7 o8 o9 : Oper} {r : List Oper} (hr : Region.ready md (List.toArray (o0 :: o1 :: o2 :: o3 :: o4 :: o5 :: o6 :: o7 :: o8 :: o9 :: r)) listed = [7, 9])
    (h1 : ∀ K' : Act → World → Prop, Shut (∀ a w, S w → (S w → wpAnyH P md (List.toArray (o0 :: o1 :: o2 :: o3 :: o4 :: o5 :: o6 :: o7 :: o8 :: o9 :: r)) Q S fuel (listed.setIfInBounds 7 true) a w) → K' a w) → if Region.wanted o7 (yielded (List.toArray (o0 :: o1 :: o2 :: o3 :: o4 :: o5 :: o6 :: o7 :: o8 :: o9 :: r)) a.tmps) = true then Oper.wp P o7 a w K' Q else K' (a.put o7.dst undef) w) (h2 : ∀ K' : Act → World → Prop, Shut (∀ a w, S w → (S w → wpAnyH P md (List.toArray (o0 :: o1 :: o2 :: o3 :: o4 :: o5 :: o6 :: o7 :: o8 :: o9 :: r)) Q S fuel (listed.setIfInBounds 9 true) a w) → K' a w) → if Region.wanted o9 (yielded (List.toArray (o0 :: o1 :: o2 :: o3 :: o4 :: o5 :: o6 :: o7 :: o8 :: o9 :: r)) a.tmps) = true then Oper.wp P o9 a w K' Q else K' (a.put o9.dst undef) w) : wpAnyH P md (List.toArray (o0 :: o1 :: o2 :: o3 :: o4 :: o5 :: o6 :: o7 :: o8 :: o9 :: r)) Q S (fuel + 1) listed a w :=
  wpAnyH_ready (rs := [7, 9]) hr (by simp) (AllReadyH.cons rfl h1 (AllReadyH.cons rfl h2 AllReadyH.nil))
theorem twoH_9_11 {P : Program} {Q : Exit → Act → World → Prop} {md : Region.Mode} {S : World → Prop} {fuel : Nat} {listed : Array Bool} {a : Act} {w : World} {o0 o1 o2 o3 o4 o5 o6 o7 o8 o9 o10 o11 : Oper} {r : List Oper} (hr : Region.ready md (List.toArray (o0 :: o1 :: o2 :: o3 :: o4 :: o5 :: o6 :: o7 :: o8 :: o9 :: o10 :: o11 :: r)) listed = [9, 11])
    (h1 : ∀ K' : Act → World → Prop, Shut (∀ a w, S w → (S w → wpAnyH P md (List.toArray (o0 :: o1 :: o2 :: o3 :: o4 :: o5 :: o6 :: o7 :: o8 :: o9 :: o10 :: o11 :: r)) Q S fuel (listed.setIfInBounds 9 true) a w) → K' a w) → if Region.wanted o9 (yielded (List.toArray (o0 :: o1 :: o2 :: o3 :: o4 :: o5 :: o6 :: o7 :: o8 :: o9 :: o10 :: o11 :: r)) a.tmps) = true then Oper.wp P o9 a w K' Q else K' (a.put o9.dst undef) w) (h2 : ∀ K' : Act → World → Prop, Shut (∀ a w, S w → (S w → wpAnyH P md (List.toArray (o0 :: o1 :: o2 :: o3 :: o4 :: o5 :: o6 :: o7 :: o8 :: o9 :: o10 :: o11 :: r)) Q S fuel (listed.setIfInBounds 11 true) a w) → K' a w) → if Region.wanted o11 (yielded (List.toArray (o0 :: o1 :: o2 :: o3 :: o4 :: o5 :: o6 :: o7 :: o8 :: o9 :: o10 :: o11 :: r)) a.tmps) = true then Oper.wp P o11 a w K' Q else K' (a.put o11.dst undef) w) : wpAnyH P md (List.toArray (o0 :: o1 :: o2 :: o3 :: o4 :: o5 :: o6 :: o7 :: o8 :: o9 :: o10 :: o11 :: r)) Q S (fuel + 1) listed a w :=
  wpAnyH_ready (rs := [9, 11]) hr (by simp) (AllReadyH.cons rfl h1 (AllReadyH.cons rfl h2 AllReadyH.nil))
theorem twoH_9_13 {P : Program} {Q : Exit → Act → World → Prop} {md : Region.Mode} {S : World → Prop} {fuel : Nat} {listed : Array Bool} {a : Act} {w : World} {o0 o1 o2 o3 o4 o5 o6 o7 o8 o9 o10 o11 o12 o13 : Oper} {r : List Oper} (hr : Region.ready md (List.toArray (o0 :: o1 :: o2 :: o3 :: o4 :: o5 :: o6 :: o7 :: o8 :: o9 :: o10 :: o11 :: o12 :: o13 :: r)) listed = [9, 13])
    (h1 : ∀ K' : Act → World → Prop, Shut (∀ a w, S w → (S w → wpAnyH P md (List.toArray (o0 :: o1 :: o2 :: o3 :: o4 :: o5 :: o6 :: o7 :: o8 :: o9 :: o10 :: o11 :: o12 :: o13 :: r)) Q S fuel (listed.setIfInBounds 9 true) a w) → K' a w) → if Region.wanted o9 (yielded (List.toArray (o0 :: o1 :: o2 :: o3 :: o4 :: o5 :: o6 :: o7 :: o8 :: o9 :: o10 :: o11 :: o12 :: o13 :: r)) a.tmps) = true then Oper.wp P o9 a w K' Q else K' (a.put o9.dst undef) w) (h2 : ∀ K' : Act → World → Prop, Shut (∀ a w, S w → (S w → wpAnyH P md (List.toArray (o0 :: o1 :: o2 :: o3 :: o4 :: o5 :: o6 :: o7 :: o8 :: o9 :: o10 :: o11 :: o12 :: o13 :: r)) Q S fuel (listed.setIfInBounds 13 true) a w) → K' a w) → if Region.wanted o13 (yielded (List.toArray (o0 :: o1 :: o2 :: o3 :: o4 :: o5 :: o6 :: o7 :: o8 :: o9 :: o10 :: o11 :: o12 :: o13 :: r)) a.tmps) = true then Oper.wp P o13 a w K' Q else K' (a.put o13.dst undef) w) : wpAnyH P md (List.toArray (o0 :: o1 :: o2 :: o3 :: o4 :: o5 :: o6 :: o7 :: o8 :: o9 :: o10 :: o11 :: o12 :: o13 :: r)) Q S (fuel + 1) listed a w :=
  wpAnyH_ready (rs := [9, 13]) hr (by simp) (AllReadyH.cons rfl h1 (AllReadyH.cons rfl h2 AllReadyH.nil))
theorem twoH_11_13 {P : Program} {Q : Exit → Act → World → Prop} {md : Region.Mode} {S : World → Prop} {fuel : Nat} {listed : Array Bool} {a : Act} {w : World} {o0 o1 o2 o3 o4 o5 o6 o7 o8 o9 o10 o11 o12 o13 : Oper} {r : List Oper} (hr : Region.ready md (List.toArray (o0 :: o1 :: o2 :: o3 :: o4 :: o5 :: o6 :: o7 :: o8 :: o9 :: o10 :: o11 :: o12 :: o13 :: r)) listed = [11, 13])
    (h1 : ∀ K' : Act → World → Prop, Shut (∀ a w, S w → (S w → wpAnyH P md (List.toArray (o0 :: o1 :: o2 :: o3 :: o4 :: o5 :: o6 :: o7 :: o8 :: o9 :: o10 :: o11 :: o12 :: o13 :: r)) Q S fuel (listed.setIfInBounds 11 true) a w) → K' a w) → if Region.wanted o11 (yielded (List.toArray (o0 :: o1 :: o2 :: o3 :: o4 :: o5 :: o6 :: o7 :: o8 :: o9 :: o10 :: o11 :: o12 :: o13 :: r)) a.tmps) = true then Oper.wp P o11 a w K' Q else K' (a.put o11.dst undef) w) (h2 : ∀ K' : Act → World → Prop, Shut (∀ a w, S w → (S w → wpAnyH P md (List.toArray (o0 :: o1 :: o2 :: o3 :: o4 :: o5 :: o6 :: o7 :: o8 :: o9 :: o10 :: o11 :: o12 :: o13 :: r)) Q S fuel (listed.setIfInBounds 13 true) a w) → K' a w) → if Region.wanted o13 (yielded (List.toArray (o0 :: o1 :: o2 :: o3 :: o4 :: o5 :: o6 :: o7 :: o8 :: o9 :: o10 :: o11 :: o12 :: o13 :: r)) a.tmps) = true then Oper.wp P o13 a w K' Q else K' (a.put o13.dst undef) w) : wpAnyH P md (List.toArray (o0 :: o1 :: o2 :: o3 :: o4 :: o5 :: o6 :: o7 :: o8 :: o9 :: o10 :: o11 :: o12 :: o13 :: r)) Q S (fuel + 1) listed a w :=
  wpAnyH_ready (rs := [11, 13]) hr (by simp) (AllReadyH.cons rfl h1 (AllReadyH.cons rfl h2 AllReadyH.nil))
theorem threeH_9_11_13 {P : Program} {Q : Exit → Act → World → Prop} {md : Region.Mode} {S : World → Prop} {fuel : Nat} {listed : Array Bool} {a : Act} {w : World} {o0 o1 o2 o3 o4 o5 o6 o7 o8 o9 o10 o11 o12 o13 : Oper} {r : List Oper} (hr : Region.ready md (List.toArray (o0 :: o1 :: o2 :: o3 :: o4 :: o5 :: o6 :: o7 :: o8 :: o9 :: o10 :: o11 :: o12 :: o13 :: r)) listed = [9, 11, 13])
    (h1 : ∀ K' : Act → World → Prop, Shut (∀ a w, S w → (S w → wpAnyH P md (List.toArray (o0 :: o1 :: o2 :: o3 :: o4 :: o5 :: o6 :: o7 :: o8 :: o9 :: o10 :: o11 :: o12 :: o13 :: r)) Q S fuel (listed.setIfInBounds 9 true) a w) → K' a w) → if Region.wanted o9 (yielded (List.toArray (o0 :: o1 :: o2 :: o3 :: o4 :: o5 :: o6 :: o7 :: o8 :: o9 :: o10 :: o11 :: o12 :: o13 :: r)) a.tmps) = true then Oper.wp P o9 a w K' Q else K' (a.put o9.dst undef) w) (h2 : ∀ K' : Act → World → Prop, Shut (∀ a w, S w → (S w → wpAnyH P md (List.toArray (o0 :: o1 :: o2 :: o3 :: o4 :: o5 :: o6 :: o7 :: o8 :: o9 :: o10 :: o11 :: o12 :: o13 :: r)) Q S fuel (listed.setIfInBounds 11 true) a w) → K' a w) → if Region.wanted o11 (yielded (List.toArray (o0 :: o1 :: o2 :: o3 :: o4 :: o5 :: o6 :: o7 :: o8 :: o9 :: o10 :: o11 :: o12 :: o13 :: r)) a.tmps) = true then Oper.wp P o11 a w K' Q else K' (a.put o11.dst undef) w) (h3 : ∀ K' : Act → World → Prop, Shut (∀ a w, S w → (S w → wpAnyH P md (List.toArray (o0 :: o1 :: o2 :: o3 :: o4 :: o5 :: o6 :: o7 :: o8 :: o9 :: o10 :: o11 :: o12 :: o13 :: r)) Q S fuel (listed.setIfInBounds 13 true) a w) → K' a w) → if Region.wanted o13 (yielded (List.toArray (o0 :: o1 :: o2 :: o3 :: o4 :: o5 :: o6 :: o7 :: o8 :: o9 :: o10 :: o11 :: o12 :: o13 :: r)) a.tmps) = true then Oper.wp P o13 a w K' Q else K' (a.put o13.dst undef) w) : wpAnyH P md (List.toArray (o0 :: o1 :: o2 :: o3 :: o4 :: o5 :: o6 :: o7 :: o8 :: o9 :: o10 :: o11 :: o12 :: o13 :: r)) Q S (fuel + 1) listed a w :=
  wpAnyH_ready (rs := [9, 11, 13]) hr (by simp) (AllReadyH.cons rfl h1 (AllReadyH.cons rfl h2 (AllReadyH.cons rfl h3 AllReadyH.nil)))

theorem wp_makeAny {P : Program} (w : World) {o : Oper} {a : Act} {K : Act → World → Prop} {Q : Exit → Act → World → Prop} (l : Operand) (t : TypeId) (hop : o.op = Op.makeSlice t l l)
    (e : TypeId) (i : TypeInfo) (z : Value) (h1 : P.underlying t = some (.slice e)) (h2 : P.info? e = some i) (h3 : i.zero = some z) (h4 : i.size = 1)
    (n : Nat) (hl : a.eval l = .int .i64 (n : Int)) (b2 : i.bytes * n ≤ 281474976710656) (b3 : n ≤ maxLen)
    (hK : ∀ w', w'.ownsRow w.heap.size e 1 (.slice (some ⟨w.heap.size, 0, none⟩) n n) n (madeCells z.cells (n * 1)).toList → w.grownBy w' none → K (a.put o.dst (.slice (some ⟨w.heap.size, 0, none⟩) n n)) w') : o.wp P a w K Q := by
  obtain ⟨w', hrun, r1, r2⟩ := run_make_full (P := P) w w.heap.size t e i z 1 h1 h2 h3 h4 .i64 .i64 n b2 b3 (Nat.le_refl _)
  unfold Oper.wp
  simp [execOp, hop, hl, hrun, Result.andThen]
  exact hK w' r1 r2
theorem wp_makeI {o : Oper} {a : Act} {K : Act → World → Prop} {Q : Exit → Act → World → Prop} (s : Operand) (ho : o.op = .makeSlice 27 s s)
    (w : World) (n : Nat) (hs : a.eval s = .int .i64 n) (hn : n ≤ 1048576)
    (h : ∀ w', OI 2 w' w.heap.size (.slice (some ⟨w.heap.size, 0, none⟩) n n) (List.replicate n 0) → Below w.heap.size w w' → K (a.put o.dst (.slice (some ⟨w.heap.size, 0, none⟩) n n)) w') : o.wp Try.prog a w K Q := by
  obtain ⟨i0, hi0, hz0, hz1, hz2⟩ := info_parts infoI2
  refine wp_makeAny w s _ ho 2 i0 (.int .i64 0) Try.underlying27 hi0 hz0 hz1 n hs (by rw [hz2]; omega) (by unfold maxLen; omega) ?_
  intro w1 hown hgrow
  exact h w1 (OI.made hown rfl) ((Below.refl _ _).grown hgrow (Nat.le_refl _) (by simp))
theorem wp_makeR {o : Oper} {a : Act} {K : Act → World → Prop} {Q : Exit → Act → World → Prop} (s : Operand) (ho : o.op = .makeSlice 28 s s)
    (w : World) (n : Nat) (hs : a.eval s = .int .i64 n) (hn : n ≤ 1048576)
    (h : ∀ w', w'.ownsRow w.heap.size 27 1 (.slice (some ⟨w.heap.size, 0, none⟩) n n) n (List.replicate n (.slice none 0 0)) → Below w.heap.size w w' → K (a.put o.dst (.slice (some ⟨w.heap.size, 0, none⟩) n n)) w') : o.wp Try.prog a w K Q := by
  obtain ⟨i1, hi1, hy0, hy1, hy2⟩ := info_parts infoII
  refine wp_makeAny w s _ ho 27 i1 (.slice none 0 0) Try.underlying28 hi1 hy0 hy1 n hs (by rw [hy2]; omega) (by unfold maxLen; omega) ?_
  intro w1 hown hgrow
  rw [show (Value.slice none 0 0).cells = #[Value.slice none 0 0] from rfl, Nat.mul_one, toList_madeCells_one] at hown
  exact h w1 hown ((Below.refl _ _).grown hgrow (Nat.le_refl _) (by simp))

/-- who comes to u, as far as v is told and of v's own successors i are -/
def pvUp (n : List (List Int)) (v i u : Nat) : List Nat := ((List.range v).filter fun x => hasL (gl n x) (u : Int)) ++ (if hasL ((gl n v).take i) (u : Int) = true then [v] else [])
theorem pvUp_zero (n : List (List Int)) (u : Nat) : pvUp n 0 0 u = [] := by simp [pvUp, hasL]
theorem pvUp_next (n : List (List Int)) (v u : Nat) : pvUp n v (gl n v).length u = pvUp n (v + 1) 0 u := by
  unfold pvUp
  have h0 : hasL ((gl n (v + 1)).take 0) (u : Int) = false := by simp [hasL]
  rw [List.take_of_length_le (Nat.le_refl _), List.range_succ, List.filter_append, h0]
  cases h : hasL (gl n v) (u : Int) with
  | true => simp [h]
  | false => simp [h]
theorem pvUp_hit {n : List (List Int)} {v i u : Nat} {N : Int} (hs : setB (gl n v) N = true) (hi : i < (gl n v).length) (hu : gi (gl n v) i = (u : Int)) : pvUp n v (i + 1) u = pvUp n v i u ++ [v] := by
  have hr := rises_set hs
  have h1 : hasL ((gl n v).take i) (u : Int) = false := hasL_no (n := i) (by rw [List.length_take]; omega) fun j hj e => by
    rw [gi_take hj] at e
    have := hr j i hj hi
    omega
  have h2 : hasL ((gl n v).take (i + 1)) (u : Int) = true := by
    rw [take_gi hi, hu]
    exact decide_eq_true (by simp)
  unfold pvUp
  rw [if_pos h2, if_neg (by rw [h1]; decide)]; simp
theorem pvUp_miss {n : List (List Int)} {v i u x : Nat} (hi : i < (gl n v).length) (hu : gi (gl n v) i = (u : Int)) (hx : x ≠ u) : pvUp n v (i + 1) x = pvUp n v i x := by
  have h : hasL ((gl n v).take (i + 1)) (x : Int) = hasL ((gl n v).take i) (x : Int) := by
    rw [take_gi hi, hu, Bool.eq_iff_iff]
    simp only [hasL_iff, List.mem_append, List.mem_singleton]
    exact ⟨fun h => h.resolve_right (by omega), .inl⟩
  unfold pvUp
  rw [h]
theorem pvUp_len (n : List (List Int)) (v i u : Nat) : (pvUp n v i u).length ≤ v + 1 := by
  unfold pvUp
  have := List.length_filter_le (fun x => hasL (gl n x) (u : Int)) (List.range v)
  rw [List.length_range] at this
  rw [List.length_append]
  split <;> simp <;> omega
def castL (l : List Nat) : List Int := l.map fun (x : Nat) => (x : Int)
def prevR (n : List (List Int)) (N : Nat) : List (List Int) := (List.range N).map fun (u : Nat) => castL ((List.range N).filter fun v => hasL (gl n v) (u : Int))
theorem prevR_at {n : List (List Int)} {N u : Nat} (h : u < N) : gl (prevR n N) u = castL (pvUp n N 0 u) := by
  have h0 : hasL ((gl n N).take 0) (u : Int) = false := by simp [hasL]
  have h1 : gl (prevR n N) u = castL ((List.range N).filter fun v => hasL (gl n v) (u : Int)) := by
    conv => lhs; unfold gl prevR
    simp [h]
  rw [h1]
  unfold pvUp
  rw [h0]; simp
/-- a game as l7Of leaves it, with picks -/
def sOf (g : ParD) (c : List Int) : S7 := ⟨g.1, g.2.2, g.2.1, prevR g.2.1 g.1.length, c⟩
theorem fine_sOf {g : ParD} (hf : finePar g) {c : List Int} (hc : c.length = g.1.length) : fine7 (sOf g c) g.1.length := by
  have h1 := hf.2.1
  have h2 := hf.1.2.2.1
  refine ⟨rfl, h1, h2, by simp [sOf, prevR], hc, hf.1.1, hf.1.2.1, fun v hv => (hf.1.2.2.2 v hv).1, fun v hv => hf.2.2 v (by omega), fun v hv => ⟨(hf.1.2.2.2 v hv).2.1.2, (hf.1.2.2.2 v hv).2.2⟩, fun u hu => ?_⟩
  show gl (prevR g.2.1 g.1.length) u = _
  have h0 : hasL ((gl g.2.1 g.1.length).take 0) (u : Int) = false := by simp [hasL]
  rw [prevR_at hu]
  unfold pvUp castL pvN
  rw [h0]; simp [sOf]
theorem Box.set5 {w : World} {b : Nat} {t : TypeId} {y0 y1 y2 y3 y4 : Value} (h : Box w b t #[y0, y1, y2, y3, y4]) (x0 x1 x2 x3 x4 : Value) : Box (((((w.setCell ⟨b, 0, none⟩ x0).setCell ⟨b, 1, none⟩ x1).setCell ⟨b, 2, none⟩ x2).setCell ⟨b, 3, none⟩ x3).setCell ⟨b, 4, none⟩ x4) b t #[x0, x1, x2, x3, x4] := by
  have := ((((h.set_ 0 x0).set_ 1 x1).set_ 2 x2).set_ 3 x3).set_ 4 x4
  simpa using this
theorem Chg.set5 (w : World) (b : Nat) (x0 x1 x2 x3 x4 : Value) : Chg (fun x => x = b) w (((((w.setCell ⟨b, 0, none⟩ x0).setCell ⟨b, 1, none⟩ x1).setCell ⟨b, 2, none⟩ x2).setCell ⟨b, 3, none⟩ x3).setCell ⟨b, 4, none⟩ x4) :=
  ((((Chg.set (w := w) ⟨b, 0, none⟩ x0).trans (Chg.set ⟨b, 1, none⟩ x1) (U := fun x => x = b) (fun _ h => h) (fun _ h => h)).trans (Chg.set ⟨b, 2, none⟩ x2) (U := fun x => x = b) (fun _ h => h) (fun _ h => h)).trans (Chg.set ⟨b, 3, none⟩ x3) (U := fun x => x = b) (fun _ h => h) (fun _ h => h)).trans (Chg.set ⟨b, 4, none⟩ x4) (U := fun x => x = b) (fun _ h => h) (fun _ h => h)


/-- what comes to each vertex, in rows of the call's own -/
def PrevAt (w : World) (lo lr bp N : Nat) (f : Nat → List Int) : Prop := ∃ cs : List Value, w.ownsRow lo 27 1 (.slice (some ⟨bp, 0, none⟩) N N) N cs ∧ OL 2 w lr cs f ∧ Dis cs
theorem PrevAt.turn {w w7 : World} {lo lr bp N u : Nat} {f f2 : Nat → List Int} {cs : List Value} {v7 : Value} {x : Int} (hpr : w.ownsRow lo 27 1 (.slice (some ⟨bp, 0, none⟩) N N) N cs) (hol : OL 2 w lr cs f) (hd : Dis cs) (hu : u < N) (hlo : lo ≤ bp ∧ bp < lr)
    (hc : Chg (fun b => (gv cs u).ownBlock = some b) w w7) (h7 : OI 2 w7 lr v7 (f u ++ [x])) (hat : ∀ b, v7.ownBlock = some b → (gv cs u).ownBlock = some b ∨ w.heap.size ≤ b)
    (hf : ∀ y, y < N → f2 y = if u = y then f u ++ [x] else f y) : PrevAt (w7.setCell ⟨bp, u, none⟩ v7) lo lr bp N f2 := by
  have hcl : cs.length = N := by have := row_len hpr; omega
  have hown : ∀ b, (gv cs u).ownBlock = some b → lr ≤ b := fun b hb => ((hol u (by omega)).lt b hb).1
  have k1 := row_chg hpr hc (fun b hb e => by have h4 : some bp = some b := hb; injection h4 with h4; have := hown _ e; omega)
  have k2 := (World.ownsRow.stored k1 u v7).1
  have chS : Chg (fun b => b = bp) w7 (w7.setCell ⟨bp, u, none⟩ v7) := Chg.set ⟨bp, u, none⟩ v7
  refine ⟨cs.set u v7, k2, fun i hi => ?_, hd.set_ (by omega) fun i hi hne => ?_⟩
  · rw [List.length_set] at hi
    rw [gv_set (by omega), hf i (by omega)]
    by_cases e : u = i
    · rw [if_pos e, if_pos e]
      exact h7.chg chS (fun b hb e2 => by have h3 : b = bp := e2; have := (h7.lt b hb).1; omega)
    · rw [if_neg e, if_neg e]
      have hi' := hol i hi
      have h8 := hi'.chg hc (fun b hb e2 => apart_not (hd u i (by omega) hi e) e2 hb)
      exact h8.chg chS (fun b hb e2 => by have h3 : b = bp := e2; have := (hi'.lt b hb).1; omega)
  · exact (apart_grow2 (hd u i (by omega) hi (fun e => hne e.symm)) hat (fun b hb => ((hol i hi).lt b hb).2)).symm
theorem PrevAt.chg {S : Nat → Prop} {w w' : World} {lo lr bp N : Nat} {f : Nat → List Int} (h : PrevAt w lo lr bp N f) (hc : Chg S w w') (h1 : ¬ S bp) (h2 : ∀ b, S b → b < lr) : PrevAt w' lo lr bp N f := by
  obtain ⟨cs, a, b, c⟩ := h
  exact ⟨cs, row_chg a hc (fun x hx e => by have h4 : some bp = some x := hx; injection h4 with h4; exact h1 (h4 ▸ e)), b.chg hc h2, c⟩
theorem PrevAt.below {w w' : World} {lo lr bp N : Nat} {f : Nat → List Int} (h : PrevAt w lo lr bp N f) (hb : Below w.heap.size w w') : PrevAt w' lo lr bp N f := by
  obtain ⟨cs, a, b, c⟩ := h
  exact ⟨cs, row_below a hb, b.below hb, c⟩
theorem PrevAt.reads {w : World} {lo lr bp N : Nat} {n : List (List Int)} (h : PrevAt w lo lr bp N (gl n)) (hn : n.length = N) : RIIv w (.slice (some ⟨bp, 0, none⟩) N N) n := by
  obtain ⟨cs, a, b, c⟩ := h
  exact ⟨_, _, _, rfl, RII.of_rows hn a b⟩
theorem PrevAt.congr {w : World} {lo lr bp N : Nat} {f g : Nat → List Int} (h : PrevAt w lo lr bp N f) (hn : ∀ u, u < N → f u = g u) : PrevAt w lo lr bp N g := by
  obtain ⟨cs, a, b, c⟩ := h
  exact ⟨cs, a, b.congr fun i hi => hn i (by have := row_len a; omega), c⟩

/-- what l7Of leaves -/
def OfTo (w : World) (B : Nat) (s0 s1 s2 : Value) (g : ParD) (e : Ending) (w' : World) : Prop :=
  ∃ (s3 : Value) (bk : Nat), e = .returned (.agg #[s0, s2, s1, s3, .slice (some ⟨bk, 0, none⟩) g.1.length g.1.length]) ∧ OI 2 w' B (.slice (some ⟨bk, 0, none⟩) g.1.length g.1.length) (negL g.1.length) ∧ w.heap.size ≤ bk ∧ (∀ w'', Chg (fun b => b = bk) w' w'' → RIIv w'' s3 (prevR g.2.1 g.1.length)) ∧ Below B w w'

set_option maxRecDepth 100000 in
set_option maxHeartbeats 6400000 in
theorem l7Of (s0 s1 s2 : Value) (g : ParD) (w : World) (B : Nat) (hB : B ≤ w.heap.size) (hag : RPv w s0 s1 s2 g) (hf : finePar g) :
    Calls Try.prog 59 #[.agg #[s0, s1, s2]] w (OfTo w B s0 s1 s2 g) := by
  obtain ⟨A0, n0, c0, A1, n1, c1, A2, n2, c2, rfl, rfl, rfl⟩ := hag.form
  have hr := hag.ri; have hrr := hag.rii; have hrp := hag.rp
  have b1 := hr.cap; have b2 := hr.top; have b3 := hrr.cap; have b4 := hrr.top; have b5 := hrp.cap; have b6 := hrp.top
  have hN1 : 1 ≤ g.1.length := hf.1.1
  have hN2 : g.1.length ≤ 256 := hf.1.2.1
  have e0 : n2 = n0 := by rw [← hrp.len, ← hr.len]; exact hf.2.1
  have e1 : n2 = n1 := by rw [← hrp.len, ← hrr.len, hf.2.1]; exact hf.1.2.2.1.symm
  subst e0; subst e1
  have HL := Lib.hid hr.len; have HM := Lib.hid hrr.len
  rw [HL.out] at hN1 hN2
  have HF := Lib.hid hf
  have hba : Below w.heap.size w ((w.alloc (.cells #[.slice A0 n2 c0, .slice A1 n2 c1, .slice A2 n2 c2] 34)).alloc (.cells #[.slice none 0 0, .slice none 0 0, .slice none 0 0, .slice none 0 0, .slice none 0 0] 76)) := below_alloc (Nat.le_refl _) (below_alloc (Nat.le_refl _) (Below.refl _ _))
  have bxL := (Box.new w 34 #[.slice A0 n2 c0, .slice A1 n2 c1, .slice A2 n2 c2]).alloc (.cells #[.slice none 0 0, .slice none 0 0, .slice none 0 0, .slice none 0 0, .slice none 0 0] 76)
  have brL : Box ((w.alloc (.cells #[.slice A0 n2 c0, .slice A1 n2 c1, .slice A2 n2 c2] 34)).alloc (.cells #[.slice none 0 0, .slice none 0 0, .slice none 0 0, .slice none 0 0, .slice none 0 0] 76)) (w.heap.size + 1) 76 #[.slice none 0 0, .slice none 0 0, .slice none 0 0, .slice none 0 0, .slice none 0 0] := Box.new' (by simp)
  have q0 := bxL.c0; have q1 := bxL.c1; have q2 := bxL.c2
  clear hf
  go_enter Try.func59, Try.ntmps59
  go_upto_region 2 with (fail)
  go_cut [4] (fun u4 wx => Hid (∃ bb bp bk : Nat, u4 = .pointer (some ⟨bb, 0, none⟩) ∧ Box wx bb 76 #[.slice A0 n2 c0, .slice A2 n2 c2, .slice A1 n2 c1, .slice (some ⟨bp, 0, none⟩) n2 n2, .slice (some ⟨bk, 0, none⟩) n2 n2] ∧ wx.ownsRow (w.heap.size + 2) 27 1 (.slice (some ⟨bp, 0, none⟩) n2 n2) n2 (List.replicate n2 (.slice none 0 0)) ∧ OI 2 wx (w.heap.size + 2) (.slice (some ⟨bk, 0, none⟩) n2 n2) (List.replicate n2 0) ∧ (bb ≠ bp ∧ bb ≠ bk ∧ bp ≠ bk ∧ w.heap.size + 2 ≤ bb ∧ w.heap.size + 2 ≤ bp ∧ w.heap.size + 2 ≤ bk) ∧ Box wx w.heap.size 34 #[.slice A0 n2 c0, .slice A1 n2 c1, .slice A2 n2 c2] ∧ Box wx (w.heap.size + 1) 76 #[.slice none 0 0, .slice none 0 0, .slice none 0 0, .slice none 0 0, .slice none 0 0] ∧ Below w.heap.size w wx))
  case first =>
    have hwC := Below.drew hba
    have bxC : Box ((w.alloc (.cells #[.slice A0 n2 c0, .slice A1 n2 c1, .slice A2 n2 c2] 34)).alloc (.cells #[.slice none 0 0, .slice none 0 0, .slice none 0 0, .slice none 0 0, .slice none 0 0] 76)).drew w.heap.size 34 #[.slice A0 n2 c0, .slice A1 n2 c1, .slice A2 n2 c2] := bxL
    have brC : Box ((w.alloc (.cells #[.slice A0 n2 c0, .slice A1 n2 c1, .slice A2 n2 c2] 34)).alloc (.cells #[.slice none 0 0, .slice none 0 0, .slice none 0 0, .slice none 0 0, .slice none 0 0] 76)).drew (w.heap.size + 1) 76 #[.slice none 0 0, .slice none 0 0, .slice none 0 0, .slice none 0 0, .slice none 0 0] := brL
    have hszD : w.heap.size + 2 ≤ ((w.alloc (.cells #[.slice A0 n2 c0, .slice A1 n2 c1, .slice A2 n2 c2] 34)).alloc (.cells #[.slice none 0 0, .slice none 0 0, .slice none 0 0, .slice none 0 0, .slice none 0 0] 76)).drew.heap.size := brC.lt
    replace q0 := bxC.c0; replace q1 := bxC.c1; replace q2 := bxC.c2
    refine wp_region_held_drew (S := (fun w' => w'.cell? ⟨w.heap.size, 0, none⟩ = some (.slice A0 n2 c0) ∧ w'.cell? ⟨w.heap.size, 1, none⟩ = some (.slice A1 n2 c1) ∧ w'.cell? ⟨w.heap.size, 2, none⟩ = some (.slice A2 n2 c2))) (by kernel_rfl) (⟨q0, q1, q2⟩) (fun hHeld => ?_)
    clear hba bxL brL
    generalize ((w.alloc (.cells #[.slice A0 n2 c0, .slice A1 n2 c1, .slice A2 n2 c2] 34)).alloc (.cells #[.slice none 0 0, .slice none 0 0, .slice none 0 0, .slice none 0 0, .slice none 0 0] 76)).drew = wD at *
    refine takeH0 (v := ?_) (by kernel_rfl) (by kernel_rfl) (by kernel_rfl) (fun _ _ _ h => h) hHeld (by rfl) ?_ ?_
    rotate_left; · (intro w hSw; (try dsimp only at hSw); go_simp; try with_reducible rfl)
    try simp only [Act.put, List.setIfInBounds_toArray, List.set_cons_zero, List.set_cons_succ]
    refine takeH1 (v := ?_) (by kernel_rfl) (by kernel_rfl) (by kernel_rfl) (fun _ _ _ h => h) hHeld (by rfl) ?_ ?_
    rotate_left; · (intro w hSw; (try dsimp only at hSw); go_simp; try with_reducible rfl)
    try simp only [Act.put, List.setIfInBounds_toArray, List.set_cons_zero, List.set_cons_succ]
    refine takeH2 (v := ?_) (by kernel_rfl) (by kernel_rfl) (by kernel_rfl) (fun _ _ _ h => h) hHeld (by rfl) ?_ ?_
    rotate_left; · (intro w hSw; (try dsimp only at hSw); go_simp; try with_reducible rfl)
    try simp only [Act.put, List.setIfInBounds_toArray, List.set_cons_zero, List.set_cons_succ]
    refine takeH3 (v := ?_) (by kernel_rfl) (by kernel_rfl) (by kernel_rfl) (fun _ _ _ h => h) hHeld (by rfl) ?_ ?_
    rotate_left; · (intro w hSw; (try dsimp only at hSw); go_simp; try with_reducible rfl)
    try simp only [Act.put, List.setIfInBounds_toArray, List.set_cons_zero, List.set_cons_succ]
    refine takeH4 (v := ?_) (by kernel_rfl) (by kernel_rfl) (by kernel_rfl) (fun _ _ _ h => h) hHeld (by rfl) ?_ ?_
    rotate_left; · (intro w hSw; (try dsimp only at hSw); go_simp; try with_reducible rfl)
    try simp only [Act.put, List.setIfInBounds_toArray, List.set_cons_zero, List.set_cons_succ]
    refine takeH5 (v := ?_) (by kernel_rfl) (by kernel_rfl) (by kernel_rfl) (fun _ _ _ h => h) hHeld (by rfl) ?_ ?_
    rotate_left; · (intro w hSw; (try dsimp only at hSw); go_simp; try with_reducible rfl)
    try simp only [Act.put, List.setIfInBounds_toArray, List.set_cons_zero, List.set_cons_succ]
    refine takeH6 (v := ?_) (by kernel_rfl) (by kernel_rfl) (by kernel_rfl) (fun _ _ _ h => h) hHeld (by rfl) ?_ ?_
    rotate_left; · (intro w hSw; (try dsimp only at hSw); go_simp; try with_reducible rfl)
    try simp only [Act.put, List.setIfInBounds_toArray, List.set_cons_zero, List.set_cons_succ]
    refine takeH7 (v := ?_) (by kernel_rfl) (by kernel_rfl) (by kernel_rfl) (fun _ _ _ h => h) hHeld (by rfl) ?_ ?_
    rotate_left; · (intro w hSw; (try dsimp only at hSw); go_simp; try with_reducible rfl)
    try simp only [Act.put, List.setIfInBounds_toArray, List.set_cons_zero, List.set_cons_succ]
    refine takeH8 (v := ?_) (by kernel_rfl) (by kernel_rfl) (by kernel_rfl) (fun _ _ _ h => h) hHeld (by rfl) ?_ ?_
    rotate_left; · (intro w hSw; (try dsimp only at hSw); go_simp; try with_reducible rfl)
    try simp only [Act.put, List.setIfInBounds_toArray, List.set_cons_zero, List.set_cons_succ]
    refine takeH10 (v := ?_) (by kernel_rfl) (by kernel_rfl) (by kernel_rfl) (fun _ _ _ h => h) hHeld (by rfl) ?_ ?_
    rotate_left; · (intro w hSw; (try dsimp only at hSw); go_simp; try with_reducible rfl)
    try simp only [Act.put, List.setIfInBounds_toArray, List.set_cons_zero, List.set_cons_succ]
    refine threeH_9_11_13 (by kernel_rfl) (fun K hK => ?_) (fun K hK => ?_) (fun K hK => ?_)
    · refine step_of_list (by rfl) (wp_makeR (.tmp 19) (by rfl) wD n2 (by rfl) (by omega) ?_)
      intro wR hoR hbR
      have lR : wD.heap.size < wR.heap.size := (World.ownsRow.lt hoR _ rfl).2
      replace hwC := below_then hbR hwC.size hwC
      replace bxC := bxC.on hbR
      replace brC := brC.on hbR
      have q0 := bxC.c0; have q1 := bxC.c1; have q2 := bxC.c2
      refine hK.out _ _ (⟨q0, q1, q2⟩) (fun hHeld => ?_)
      clear hK K
      try simp only [Act.put, List.setIfInBounds_toArray, List.set_cons_zero, List.set_cons_succ]
      refine twoH_11_13 (by kernel_rfl) (fun K hK => ?_) (fun K hK => ?_)
      · refine step_of_list (by rfl) (wp_makeI (.tmp 21) (by rfl) wR n2 (by rfl) (by omega) ?_)
        intro wI hoI hbI
        have lI : wR.heap.size < wI.heap.size := (hoI.lt _ rfl).2
        replace hwC := below_then hbI hwC.size hwC
        replace bxC := bxC.on hbI
        replace brC := brC.on hbI
        replace hoR := row_below hoR hbI
        have q0 := bxC.c0; have q1 := bxC.c1; have q2 := bxC.c2
        refine hK.out _ _ (⟨q0, q1, q2⟩) (fun hHeld => ?_)
        clear hK K
        try simp only [Act.put, List.setIfInBounds_toArray, List.set_cons_zero, List.set_cons_succ]
        refine takeH12 (v := ?_) (by kernel_rfl) (by kernel_rfl) (by kernel_rfl) (fun _ _ _ h => h) hHeld (by rfl) ?_ ?_
        rotate_left; · (intro w hSw; (try dsimp only at hSw); go_simp; try with_reducible rfl)
        try simp only [Act.put, List.setIfInBounds_toArray, List.set_cons_zero, List.set_cons_succ]
        refine callH13 (by kernel_rfl) (fun K hK => ?_)
        have q0A : (wI.alloc (.cells #[.slice none 0 0, .slice none 0 0, .slice none 0 0, .slice none 0 0, .slice none 0 0] 76)).cell? ⟨w.heap.size, 0, none⟩ = some (.slice A0 n2 c0) := keepA q0
        have q1A : (wI.alloc (.cells #[.slice none 0 0, .slice none 0 0, .slice none 0 0, .slice none 0 0, .slice none 0 0] 76)).cell? ⟨w.heap.size, 1, none⟩ = some (.slice A1 n2 c1) := keepA q1
        have q2A : (wI.alloc (.cells #[.slice none 0 0, .slice none 0 0, .slice none 0 0, .slice none 0 0, .slice none 0 0] 76)).cell? ⟨w.heap.size, 2, none⟩ = some (.slice A2 n2 c2) := keepA q2
        go_simp
        refine hK.out _ _ (⟨q0A, q1A, q2A⟩) (fun hHeld => ?_)
        clear hK K
        try simp only [Act.put, List.setIfInBounds_toArray, List.set_cons_zero, List.set_cons_succ]
        have hbA : Below wI.heap.size wI (wI.alloc (.cells #[.slice none 0 0, .slice none 0 0, .slice none 0 0, .slice none 0 0, .slice none 0 0] 76)) := below_alloc (Nat.le_refl _) (Below.refl _ _)
        have bz : Box (wI.alloc (.cells #[.slice none 0 0, .slice none 0 0, .slice none 0 0, .slice none 0 0, .slice none 0 0] 76)) wI.heap.size 76 #[.slice none 0 0, .slice none 0 0, .slice none 0 0, .slice none 0 0, .slice none 0 0] := Box.new _ _ _
        have lA : wI.heap.size < (wI.alloc (.cells #[.slice none 0 0, .slice none 0 0, .slice none 0 0, .slice none 0 0, .slice none 0 0] 76)).heap.size := bz.lt
        replace hwC := below_then hbA hwC.size hwC
        replace bxC := bxC.on hbA
        replace brC := brC.on hbA
        replace hoR := row_below hoR hbA
        replace hoI := hoI.below hbA
        have q0 := bxC.c0; have q1 := bxC.c1; have q2 := bxC.c2
        generalize wI.alloc (.cells #[.slice none 0 0, .slice none 0 0, .slice none 0 0, .slice none 0 0, .slice none 0 0] 76) = wA at *
        refine callH14 (by kernel_rfl) (fun K hK => ?_)
        have z0 := bz.e0; have z1 := bz.e1; have z2 := bz.e2; have z3 := bz.e3; have z4 := bz.e4
        have y0 := bz.hot 0
        have y1 := bz.hot 1
        have y2 := bz.hot 2
        have y3 := bz.hot 3
        have y4 := bz.hot 4
        have sR : wD.heap.size < wA.heap.size := (World.ownsRow.lt hoR _ rfl).2
        have sI : wR.heap.size < wA.heap.size := (hoI.lt _ rfl).2
        have sA : wI.heap.size < wA.heap.size := bz.lt
        have hch := Chg.set5 wA (wI.heap.size) (.slice A0 n2 c0) (.slice A2 n2 c2) (.slice A1 n2 c1) (.slice (some ⟨wD.heap.size, 0, none⟩) n2 n2) (.slice (some ⟨wR.heap.size, 0, none⟩) n2 n2)
        have hz5 := bz.set5 (.slice A0 n2 c0) (.slice A2 n2 c2) (.slice A1 n2 c1) (.slice (some ⟨wD.heap.size, 0, none⟩) n2 n2) (.slice (some ⟨wR.heap.size, 0, none⟩) n2 n2)
        have hR5 := row_chg hoR hch (fun b hb e => by have h4 : some wD.heap.size = some b := hb; injection h4 with h4; have h5 : b = wI.heap.size := e; omega)
        have hI5 := hoI.chg hch (fun b hb e => by have h4 : some wR.heap.size = some b := hb; injection h4 with h4; have h5 : b = wI.heap.size := e; omega)
        have hx5 := (hch.block _ bxC.lt (fun e => by have h5 : w.heap.size = wI.heap.size := e; omega)).trans bxC
        have hr5 := (hch.block _ brC.lt (fun e => by have h5 : w.heap.size + 1 = wI.heap.size := e; omega)).trans brC
        have hw5 := hwC.trans (hch.below hwC.size (fun x hx => by have h5 : x = wI.heap.size := hx; omega))
        have q0A : (((((wA.setCell ⟨wI.heap.size, 0, none⟩ (.slice A0 n2 c0)).setCell ⟨wI.heap.size, 1, none⟩ (.slice A2 n2 c2)).setCell ⟨wI.heap.size, 2, none⟩ (.slice A1 n2 c1)).setCell ⟨wI.heap.size, 3, none⟩ (.slice (some ⟨wD.heap.size, 0, none⟩) n2 n2)).setCell ⟨wI.heap.size, 4, none⟩ (.slice (some ⟨wR.heap.size, 0, none⟩) n2 n2)).cell? ⟨w.heap.size, 0, none⟩ = some (.slice A0 n2 c0) := Box.c0 (w := (((((wA.setCell ⟨wI.heap.size, 0, none⟩ (.slice A0 n2 c0)).setCell ⟨wI.heap.size, 1, none⟩ (.slice A2 n2 c2)).setCell ⟨wI.heap.size, 2, none⟩ (.slice A1 n2 c1)).setCell ⟨wI.heap.size, 3, none⟩ (.slice (some ⟨wD.heap.size, 0, none⟩) n2 n2)).setCell ⟨wI.heap.size, 4, none⟩ (.slice (some ⟨wR.heap.size, 0, none⟩) n2 n2))) (t := 34) hx5
        have q1A : (((((wA.setCell ⟨wI.heap.size, 0, none⟩ (.slice A0 n2 c0)).setCell ⟨wI.heap.size, 1, none⟩ (.slice A2 n2 c2)).setCell ⟨wI.heap.size, 2, none⟩ (.slice A1 n2 c1)).setCell ⟨wI.heap.size, 3, none⟩ (.slice (some ⟨wD.heap.size, 0, none⟩) n2 n2)).setCell ⟨wI.heap.size, 4, none⟩ (.slice (some ⟨wR.heap.size, 0, none⟩) n2 n2)).cell? ⟨w.heap.size, 1, none⟩ = some (.slice A1 n2 c1) := Box.c1 (w := (((((wA.setCell ⟨wI.heap.size, 0, none⟩ (.slice A0 n2 c0)).setCell ⟨wI.heap.size, 1, none⟩ (.slice A2 n2 c2)).setCell ⟨wI.heap.size, 2, none⟩ (.slice A1 n2 c1)).setCell ⟨wI.heap.size, 3, none⟩ (.slice (some ⟨wD.heap.size, 0, none⟩) n2 n2)).setCell ⟨wI.heap.size, 4, none⟩ (.slice (some ⟨wR.heap.size, 0, none⟩) n2 n2))) (t := 34) hx5
        have q2A : (((((wA.setCell ⟨wI.heap.size, 0, none⟩ (.slice A0 n2 c0)).setCell ⟨wI.heap.size, 1, none⟩ (.slice A2 n2 c2)).setCell ⟨wI.heap.size, 2, none⟩ (.slice A1 n2 c1)).setCell ⟨wI.heap.size, 3, none⟩ (.slice (some ⟨wD.heap.size, 0, none⟩) n2 n2)).setCell ⟨wI.heap.size, 4, none⟩ (.slice (some ⟨wR.heap.size, 0, none⟩) n2 n2)).cell? ⟨w.heap.size, 2, none⟩ = some (.slice A2 n2 c2) := Box.c2 (w := (((((wA.setCell ⟨wI.heap.size, 0, none⟩ (.slice A0 n2 c0)).setCell ⟨wI.heap.size, 1, none⟩ (.slice A2 n2 c2)).setCell ⟨wI.heap.size, 2, none⟩ (.slice A1 n2 c1)).setCell ⟨wI.heap.size, 3, none⟩ (.slice (some ⟨wD.heap.size, 0, none⟩) n2 n2)).setCell ⟨wI.heap.size, 4, none⟩ (.slice (some ⟨wR.heap.size, 0, none⟩) n2 n2))) (t := 34) hx5
        go_simp
        refine hK.out _ _ (⟨q0A, q1A, q2A⟩) (fun hHeld => ?_)
        clear hK K
        try simp only [Act.put, List.setIfInBounds_toArray, List.set_cons_zero, List.set_cons_succ]
        obtain ⟨⟨xb, hxb⟩, ⟨xp, hxp⟩, ⟨xk, hxk⟩⟩ : (∃ x, x = wI.heap.size) ∧ (∃ x, x = wD.heap.size) ∧ (∃ x, x = wR.heap.size) := ⟨⟨_, rfl⟩, ⟨_, rfl⟩, ⟨_, rfl⟩⟩
        clear hxb hxp hxk
        have HN := Lib.hid (show wI.heap.size ≠ wD.heap.size ∧ wI.heap.size ≠ wR.heap.size ∧ wD.heap.size ≠ wR.heap.size ∧ w.heap.size + 2 ≤ wI.heap.size ∧ w.heap.size + 2 ≤ wD.heap.size ∧ w.heap.size + 2 ≤ wR.heap.size from ⟨by omega, by omega, by omega, by omega, by omega, by omega⟩)
        refine wpAnyH_done (by kernel_rfl) ?_ _
        go_wp2_with fail; go_meet
        refine Lib.hid ⟨wI.heap.size, wD.heap.size, wR.heap.size, rfl, hz5, row_more hR5 (by omega), hI5.more (by omega), HN.out, hx5, hr5, hw5⟩
      · have q0A : (wR.alloc (.cells #[.slice none 0 0, .slice none 0 0, .slice none 0 0, .slice none 0 0, .slice none 0 0] 76)).cell? ⟨w.heap.size, 0, none⟩ = some (.slice A0 n2 c0) := keepA q0
        have q1A : (wR.alloc (.cells #[.slice none 0 0, .slice none 0 0, .slice none 0 0, .slice none 0 0, .slice none 0 0] 76)).cell? ⟨w.heap.size, 1, none⟩ = some (.slice A1 n2 c1) := keepA q1
        have q2A : (wR.alloc (.cells #[.slice none 0 0, .slice none 0 0, .slice none 0 0, .slice none 0 0, .slice none 0 0] 76)).cell? ⟨w.heap.size, 2, none⟩ = some (.slice A2 n2 c2) := keepA q2
        go_simp
        refine hK.out _ _ (⟨q0A, q1A, q2A⟩) (fun hHeld => ?_)
        clear hK K
        try simp only [Act.put, List.setIfInBounds_toArray, List.set_cons_zero, List.set_cons_succ]
        have hbA : Below wR.heap.size wR (wR.alloc (.cells #[.slice none 0 0, .slice none 0 0, .slice none 0 0, .slice none 0 0, .slice none 0 0] 76)) := below_alloc (Nat.le_refl _) (Below.refl _ _)
        have bz : Box (wR.alloc (.cells #[.slice none 0 0, .slice none 0 0, .slice none 0 0, .slice none 0 0, .slice none 0 0] 76)) wR.heap.size 76 #[.slice none 0 0, .slice none 0 0, .slice none 0 0, .slice none 0 0, .slice none 0 0] := Box.new _ _ _
        have lA : wR.heap.size < (wR.alloc (.cells #[.slice none 0 0, .slice none 0 0, .slice none 0 0, .slice none 0 0, .slice none 0 0] 76)).heap.size := bz.lt
        replace hwC := below_then hbA hwC.size hwC
        replace bxC := bxC.on hbA
        replace brC := brC.on hbA
        replace hoR := row_below hoR hbA
        have q0 := bxC.c0; have q1 := bxC.c1; have q2 := bxC.c2
        generalize wR.alloc (.cells #[.slice none 0 0, .slice none 0 0, .slice none 0 0, .slice none 0 0, .slice none 0 0] 76) = wA at *
        refine callH11 (by kernel_rfl) (fun K hK => ?_)
        refine step_of_list (by rfl) (wp_makeI (.tmp 21) (by rfl) wA n2 (by rfl) (by omega) ?_)
        intro wI hoI hbI
        have lI : wA.heap.size < wI.heap.size := (hoI.lt _ rfl).2
        replace hwC := below_then hbI hwC.size hwC
        replace bxC := bxC.on hbI
        replace brC := brC.on hbI
        replace hoR := row_below hoR hbI
        replace bz := bz.on hbI
        have q0 := bxC.c0; have q1 := bxC.c1; have q2 := bxC.c2
        refine hK.out _ _ (⟨q0, q1, q2⟩) (fun hHeld => ?_)
        clear hK K
        try simp only [Act.put, List.setIfInBounds_toArray, List.set_cons_zero, List.set_cons_succ]
        refine takeH12 (v := ?_) (by kernel_rfl) (by kernel_rfl) (by kernel_rfl) (fun _ _ _ h => h) hHeld (by rfl) ?_ ?_
        rotate_left; · (intro w hSw; (try dsimp only at hSw); go_simp; try with_reducible rfl)
        try simp only [Act.put, List.setIfInBounds_toArray, List.set_cons_zero, List.set_cons_succ]
        refine callH14 (by kernel_rfl) (fun K hK => ?_)
        have z0 := bz.e0; have z1 := bz.e1; have z2 := bz.e2; have z3 := bz.e3; have z4 := bz.e4
        have y0 := bz.hot 0
        have y1 := bz.hot 1
        have y2 := bz.hot 2
        have y3 := bz.hot 3
        have y4 := bz.hot 4
        have sR : wD.heap.size < wI.heap.size := (World.ownsRow.lt hoR _ rfl).2
        have sI : wA.heap.size < wI.heap.size := (hoI.lt _ rfl).2
        have sA : wR.heap.size < wI.heap.size := bz.lt
        have hch := Chg.set5 wI (wR.heap.size) (.slice A0 n2 c0) (.slice A2 n2 c2) (.slice A1 n2 c1) (.slice (some ⟨wD.heap.size, 0, none⟩) n2 n2) (.slice (some ⟨wA.heap.size, 0, none⟩) n2 n2)
        have hz5 := bz.set5 (.slice A0 n2 c0) (.slice A2 n2 c2) (.slice A1 n2 c1) (.slice (some ⟨wD.heap.size, 0, none⟩) n2 n2) (.slice (some ⟨wA.heap.size, 0, none⟩) n2 n2)
        have hR5 := row_chg hoR hch (fun b hb e => by have h4 : some wD.heap.size = some b := hb; injection h4 with h4; have h5 : b = wR.heap.size := e; omega)
        have hI5 := hoI.chg hch (fun b hb e => by have h4 : some wA.heap.size = some b := hb; injection h4 with h4; have h5 : b = wR.heap.size := e; omega)
        have hx5 := (hch.block _ bxC.lt (fun e => by have h5 : w.heap.size = wR.heap.size := e; omega)).trans bxC
        have hr5 := (hch.block _ brC.lt (fun e => by have h5 : w.heap.size + 1 = wR.heap.size := e; omega)).trans brC
        have hw5 := hwC.trans (hch.below hwC.size (fun x hx => by have h5 : x = wR.heap.size := hx; omega))
        have q0A : (((((wI.setCell ⟨wR.heap.size, 0, none⟩ (.slice A0 n2 c0)).setCell ⟨wR.heap.size, 1, none⟩ (.slice A2 n2 c2)).setCell ⟨wR.heap.size, 2, none⟩ (.slice A1 n2 c1)).setCell ⟨wR.heap.size, 3, none⟩ (.slice (some ⟨wD.heap.size, 0, none⟩) n2 n2)).setCell ⟨wR.heap.size, 4, none⟩ (.slice (some ⟨wA.heap.size, 0, none⟩) n2 n2)).cell? ⟨w.heap.size, 0, none⟩ = some (.slice A0 n2 c0) := Box.c0 (w := (((((wI.setCell ⟨wR.heap.size, 0, none⟩ (.slice A0 n2 c0)).setCell ⟨wR.heap.size, 1, none⟩ (.slice A2 n2 c2)).setCell ⟨wR.heap.size, 2, none⟩ (.slice A1 n2 c1)).setCell ⟨wR.heap.size, 3, none⟩ (.slice (some ⟨wD.heap.size, 0, none⟩) n2 n2)).setCell ⟨wR.heap.size, 4, none⟩ (.slice (some ⟨wA.heap.size, 0, none⟩) n2 n2))) (t := 34) hx5
        have q1A : (((((wI.setCell ⟨wR.heap.size, 0, none⟩ (.slice A0 n2 c0)).setCell ⟨wR.heap.size, 1, none⟩ (.slice A2 n2 c2)).setCell ⟨wR.heap.size, 2, none⟩ (.slice A1 n2 c1)).setCell ⟨wR.heap.size, 3, none⟩ (.slice (some ⟨wD.heap.size, 0, none⟩) n2 n2)).setCell ⟨wR.heap.size, 4, none⟩ (.slice (some ⟨wA.heap.size, 0, none⟩) n2 n2)).cell? ⟨w.heap.size, 1, none⟩ = some (.slice A1 n2 c1) := Box.c1 (w := (((((wI.setCell ⟨wR.heap.size, 0, none⟩ (.slice A0 n2 c0)).setCell ⟨wR.heap.size, 1, none⟩ (.slice A2 n2 c2)).setCell ⟨wR.heap.size, 2, none⟩ (.slice A1 n2 c1)).setCell ⟨wR.heap.size, 3, none⟩ (.slice (some ⟨wD.heap.size, 0, none⟩) n2 n2)).setCell ⟨wR.heap.size, 4, none⟩ (.slice (some ⟨wA.heap.size, 0, none⟩) n2 n2))) (t := 34) hx5
        have q2A : (((((wI.setCell ⟨wR.heap.size, 0, none⟩ (.slice A0 n2 c0)).setCell ⟨wR.heap.size, 1, none⟩ (.slice A2 n2 c2)).setCell ⟨wR.heap.size, 2, none⟩ (.slice A1 n2 c1)).setCell ⟨wR.heap.size, 3, none⟩ (.slice (some ⟨wD.heap.size, 0, none⟩) n2 n2)).setCell ⟨wR.heap.size, 4, none⟩ (.slice (some ⟨wA.heap.size, 0, none⟩) n2 n2)).cell? ⟨w.heap.size, 2, none⟩ = some (.slice A2 n2 c2) := Box.c2 (w := (((((wI.setCell ⟨wR.heap.size, 0, none⟩ (.slice A0 n2 c0)).setCell ⟨wR.heap.size, 1, none⟩ (.slice A2 n2 c2)).setCell ⟨wR.heap.size, 2, none⟩ (.slice A1 n2 c1)).setCell ⟨wR.heap.size, 3, none⟩ (.slice (some ⟨wD.heap.size, 0, none⟩) n2 n2)).setCell ⟨wR.heap.size, 4, none⟩ (.slice (some ⟨wA.heap.size, 0, none⟩) n2 n2))) (t := 34) hx5
        go_simp
        refine hK.out _ _ (⟨q0A, q1A, q2A⟩) (fun hHeld => ?_)
        clear hK K
        try simp only [Act.put, List.setIfInBounds_toArray, List.set_cons_zero, List.set_cons_succ]
        obtain ⟨⟨xb, hxb⟩, ⟨xp, hxp⟩, ⟨xk, hxk⟩⟩ : (∃ x, x = wR.heap.size) ∧ (∃ x, x = wD.heap.size) ∧ (∃ x, x = wA.heap.size) := ⟨⟨_, rfl⟩, ⟨_, rfl⟩, ⟨_, rfl⟩⟩
        clear hxb hxp hxk
        have HN := Lib.hid (show wR.heap.size ≠ wD.heap.size ∧ wR.heap.size ≠ wA.heap.size ∧ wD.heap.size ≠ wA.heap.size ∧ w.heap.size + 2 ≤ wR.heap.size ∧ w.heap.size + 2 ≤ wD.heap.size ∧ w.heap.size + 2 ≤ wA.heap.size from ⟨by omega, by omega, by omega, by omega, by omega, by omega⟩)
        refine wpAnyH_done (by kernel_rfl) ?_ _
        go_wp2_with fail; go_meet
        refine Lib.hid ⟨wR.heap.size, wD.heap.size, wA.heap.size, rfl, hz5, row_more hR5 (by omega), hI5.more (by omega), HN.out, hx5, hr5, hw5⟩
    · refine step_of_list (by rfl) (wp_makeI (.tmp 21) (by rfl) wD n2 (by rfl) (by omega) ?_)
      intro wI hoI hbI
      have lI : wD.heap.size < wI.heap.size := (hoI.lt _ rfl).2
      replace hwC := below_then hbI hwC.size hwC
      replace bxC := bxC.on hbI
      replace brC := brC.on hbI
      have q0 := bxC.c0; have q1 := bxC.c1; have q2 := bxC.c2
      refine hK.out _ _ (⟨q0, q1, q2⟩) (fun hHeld => ?_)
      clear hK K
      try simp only [Act.put, List.setIfInBounds_toArray, List.set_cons_zero, List.set_cons_succ]
      refine twoH_9_13 (by kernel_rfl) (fun K hK => ?_) (fun K hK => ?_)
      · refine step_of_list (by rfl) (wp_makeR (.tmp 19) (by rfl) wI n2 (by rfl) (by omega) ?_)
        intro wR hoR hbR
        have lR : wI.heap.size < wR.heap.size := (World.ownsRow.lt hoR _ rfl).2
        replace hwC := below_then hbR hwC.size hwC
        replace bxC := bxC.on hbR
        replace brC := brC.on hbR
        replace hoI := hoI.below hbR
        have q0 := bxC.c0; have q1 := bxC.c1; have q2 := bxC.c2
        refine hK.out _ _ (⟨q0, q1, q2⟩) (fun hHeld => ?_)
        clear hK K
        try simp only [Act.put, List.setIfInBounds_toArray, List.set_cons_zero, List.set_cons_succ]
        refine takeH12 (v := ?_) (by kernel_rfl) (by kernel_rfl) (by kernel_rfl) (fun _ _ _ h => h) hHeld (by rfl) ?_ ?_
        rotate_left; · (intro w hSw; (try dsimp only at hSw); go_simp; try with_reducible rfl)
        try simp only [Act.put, List.setIfInBounds_toArray, List.set_cons_zero, List.set_cons_succ]
        refine callH13 (by kernel_rfl) (fun K hK => ?_)
        have q0A : (wR.alloc (.cells #[.slice none 0 0, .slice none 0 0, .slice none 0 0, .slice none 0 0, .slice none 0 0] 76)).cell? ⟨w.heap.size, 0, none⟩ = some (.slice A0 n2 c0) := keepA q0
        have q1A : (wR.alloc (.cells #[.slice none 0 0, .slice none 0 0, .slice none 0 0, .slice none 0 0, .slice none 0 0] 76)).cell? ⟨w.heap.size, 1, none⟩ = some (.slice A1 n2 c1) := keepA q1
        have q2A : (wR.alloc (.cells #[.slice none 0 0, .slice none 0 0, .slice none 0 0, .slice none 0 0, .slice none 0 0] 76)).cell? ⟨w.heap.size, 2, none⟩ = some (.slice A2 n2 c2) := keepA q2
        go_simp
        refine hK.out _ _ (⟨q0A, q1A, q2A⟩) (fun hHeld => ?_)
        clear hK K
        try simp only [Act.put, List.setIfInBounds_toArray, List.set_cons_zero, List.set_cons_succ]
        have hbA : Below wR.heap.size wR (wR.alloc (.cells #[.slice none 0 0, .slice none 0 0, .slice none 0 0, .slice none 0 0, .slice none 0 0] 76)) := below_alloc (Nat.le_refl _) (Below.refl _ _)
        have bz : Box (wR.alloc (.cells #[.slice none 0 0, .slice none 0 0, .slice none 0 0, .slice none 0 0, .slice none 0 0] 76)) wR.heap.size 76 #[.slice none 0 0, .slice none 0 0, .slice none 0 0, .slice none 0 0, .slice none 0 0] := Box.new _ _ _
        have lA : wR.heap.size < (wR.alloc (.cells #[.slice none 0 0, .slice none 0 0, .slice none 0 0, .slice none 0 0, .slice none 0 0] 76)).heap.size := bz.lt
        replace hwC := below_then hbA hwC.size hwC
        replace bxC := bxC.on hbA
        replace brC := brC.on hbA
        replace hoR := row_below hoR hbA
        replace hoI := hoI.below hbA
        have q0 := bxC.c0; have q1 := bxC.c1; have q2 := bxC.c2
        generalize wR.alloc (.cells #[.slice none 0 0, .slice none 0 0, .slice none 0 0, .slice none 0 0, .slice none 0 0] 76) = wA at *
        refine callH14 (by kernel_rfl) (fun K hK => ?_)
        have z0 := bz.e0; have z1 := bz.e1; have z2 := bz.e2; have z3 := bz.e3; have z4 := bz.e4
        have y0 := bz.hot 0
        have y1 := bz.hot 1
        have y2 := bz.hot 2
        have y3 := bz.hot 3
        have y4 := bz.hot 4
        have sR : wI.heap.size < wA.heap.size := (World.ownsRow.lt hoR _ rfl).2
        have sI : wD.heap.size < wA.heap.size := (hoI.lt _ rfl).2
        have sA : wR.heap.size < wA.heap.size := bz.lt
        have hch := Chg.set5 wA (wR.heap.size) (.slice A0 n2 c0) (.slice A2 n2 c2) (.slice A1 n2 c1) (.slice (some ⟨wI.heap.size, 0, none⟩) n2 n2) (.slice (some ⟨wD.heap.size, 0, none⟩) n2 n2)
        have hz5 := bz.set5 (.slice A0 n2 c0) (.slice A2 n2 c2) (.slice A1 n2 c1) (.slice (some ⟨wI.heap.size, 0, none⟩) n2 n2) (.slice (some ⟨wD.heap.size, 0, none⟩) n2 n2)
        have hR5 := row_chg hoR hch (fun b hb e => by have h4 : some wI.heap.size = some b := hb; injection h4 with h4; have h5 : b = wR.heap.size := e; omega)
        have hI5 := hoI.chg hch (fun b hb e => by have h4 : some wD.heap.size = some b := hb; injection h4 with h4; have h5 : b = wR.heap.size := e; omega)
        have hx5 := (hch.block _ bxC.lt (fun e => by have h5 : w.heap.size = wR.heap.size := e; omega)).trans bxC
        have hr5 := (hch.block _ brC.lt (fun e => by have h5 : w.heap.size + 1 = wR.heap.size := e; omega)).trans brC
        have hw5 := hwC.trans (hch.below hwC.size (fun x hx => by have h5 : x = wR.heap.size := hx; omega))
        have q0A : (((((wA.setCell ⟨wR.heap.size, 0, none⟩ (.slice A0 n2 c0)).setCell ⟨wR.heap.size, 1, none⟩ (.slice A2 n2 c2)).setCell ⟨wR.heap.size, 2, none⟩ (.slice A1 n2 c1)).setCell ⟨wR.heap.size, 3, none⟩ (.slice (some ⟨wI.heap.size, 0, none⟩) n2 n2)).setCell ⟨wR.heap.size, 4, none⟩ (.slice (some ⟨wD.heap.size, 0, none⟩) n2 n2)).cell? ⟨w.heap.size, 0, none⟩ = some (.slice A0 n2 c0) := Box.c0 (w := (((((wA.setCell ⟨wR.heap.size, 0, none⟩ (.slice A0 n2 c0)).setCell ⟨wR.heap.size, 1, none⟩ (.slice A2 n2 c2)).setCell ⟨wR.heap.size, 2, none⟩ (.slice A1 n2 c1)).setCell ⟨wR.heap.size, 3, none⟩ (.slice (some ⟨wI.heap.size, 0, none⟩) n2 n2)).setCell ⟨wR.heap.size, 4, none⟩ (.slice (some ⟨wD.heap.size, 0, none⟩) n2 n2))) (t := 34) hx5
        have q1A : (((((wA.setCell ⟨wR.heap.size, 0, none⟩ (.slice A0 n2 c0)).setCell ⟨wR.heap.size, 1, none⟩ (.slice A2 n2 c2)).setCell ⟨wR.heap.size, 2, none⟩ (.slice A1 n2 c1)).setCell ⟨wR.heap.size, 3, none⟩ (.slice (some ⟨wI.heap.size, 0, none⟩) n2 n2)).setCell ⟨wR.heap.size, 4, none⟩ (.slice (some ⟨wD.heap.size, 0, none⟩) n2 n2)).cell? ⟨w.heap.size, 1, none⟩ = some (.slice A1 n2 c1) := Box.c1 (w := (((((wA.setCell ⟨wR.heap.size, 0, none⟩ (.slice A0 n2 c0)).setCell ⟨wR.heap.size, 1, none⟩ (.slice A2 n2 c2)).setCell ⟨wR.heap.size, 2, none⟩ (.slice A1 n2 c1)).setCell ⟨wR.heap.size, 3, none⟩ (.slice (some ⟨wI.heap.size, 0, none⟩) n2 n2)).setCell ⟨wR.heap.size, 4, none⟩ (.slice (some ⟨wD.heap.size, 0, none⟩) n2 n2))) (t := 34) hx5
        have q2A : (((((wA.setCell ⟨wR.heap.size, 0, none⟩ (.slice A0 n2 c0)).setCell ⟨wR.heap.size, 1, none⟩ (.slice A2 n2 c2)).setCell ⟨wR.heap.size, 2, none⟩ (.slice A1 n2 c1)).setCell ⟨wR.heap.size, 3, none⟩ (.slice (some ⟨wI.heap.size, 0, none⟩) n2 n2)).setCell ⟨wR.heap.size, 4, none⟩ (.slice (some ⟨wD.heap.size, 0, none⟩) n2 n2)).cell? ⟨w.heap.size, 2, none⟩ = some (.slice A2 n2 c2) := Box.c2 (w := (((((wA.setCell ⟨wR.heap.size, 0, none⟩ (.slice A0 n2 c0)).setCell ⟨wR.heap.size, 1, none⟩ (.slice A2 n2 c2)).setCell ⟨wR.heap.size, 2, none⟩ (.slice A1 n2 c1)).setCell ⟨wR.heap.size, 3, none⟩ (.slice (some ⟨wI.heap.size, 0, none⟩) n2 n2)).setCell ⟨wR.heap.size, 4, none⟩ (.slice (some ⟨wD.heap.size, 0, none⟩) n2 n2))) (t := 34) hx5
        go_simp
        refine hK.out _ _ (⟨q0A, q1A, q2A⟩) (fun hHeld => ?_)
        clear hK K
        try simp only [Act.put, List.setIfInBounds_toArray, List.set_cons_zero, List.set_cons_succ]
        obtain ⟨⟨xb, hxb⟩, ⟨xp, hxp⟩, ⟨xk, hxk⟩⟩ : (∃ x, x = wR.heap.size) ∧ (∃ x, x = wI.heap.size) ∧ (∃ x, x = wD.heap.size) := ⟨⟨_, rfl⟩, ⟨_, rfl⟩, ⟨_, rfl⟩⟩
        clear hxb hxp hxk
        have HN := Lib.hid (show wR.heap.size ≠ wI.heap.size ∧ wR.heap.size ≠ wD.heap.size ∧ wI.heap.size ≠ wD.heap.size ∧ w.heap.size + 2 ≤ wR.heap.size ∧ w.heap.size + 2 ≤ wI.heap.size ∧ w.heap.size + 2 ≤ wD.heap.size from ⟨by omega, by omega, by omega, by omega, by omega, by omega⟩)
        refine wpAnyH_done (by kernel_rfl) ?_ _
        go_wp2_with fail; go_meet
        refine Lib.hid ⟨wR.heap.size, wI.heap.size, wD.heap.size, rfl, hz5, row_more hR5 (by omega), hI5.more (by omega), HN.out, hx5, hr5, hw5⟩
      · have q0A : (wI.alloc (.cells #[.slice none 0 0, .slice none 0 0, .slice none 0 0, .slice none 0 0, .slice none 0 0] 76)).cell? ⟨w.heap.size, 0, none⟩ = some (.slice A0 n2 c0) := keepA q0
        have q1A : (wI.alloc (.cells #[.slice none 0 0, .slice none 0 0, .slice none 0 0, .slice none 0 0, .slice none 0 0] 76)).cell? ⟨w.heap.size, 1, none⟩ = some (.slice A1 n2 c1) := keepA q1
        have q2A : (wI.alloc (.cells #[.slice none 0 0, .slice none 0 0, .slice none 0 0, .slice none 0 0, .slice none 0 0] 76)).cell? ⟨w.heap.size, 2, none⟩ = some (.slice A2 n2 c2) := keepA q2
        go_simp
        refine hK.out _ _ (⟨q0A, q1A, q2A⟩) (fun hHeld => ?_)
        clear hK K
        try simp only [Act.put, List.setIfInBounds_toArray, List.set_cons_zero, List.set_cons_succ]
        have hbA : Below wI.heap.size wI (wI.alloc (.cells #[.slice none 0 0, .slice none 0 0, .slice none 0 0, .slice none 0 0, .slice none 0 0] 76)) := below_alloc (Nat.le_refl _) (Below.refl _ _)
        have bz : Box (wI.alloc (.cells #[.slice none 0 0, .slice none 0 0, .slice none 0 0, .slice none 0 0, .slice none 0 0] 76)) wI.heap.size 76 #[.slice none 0 0, .slice none 0 0, .slice none 0 0, .slice none 0 0, .slice none 0 0] := Box.new _ _ _
        have lA : wI.heap.size < (wI.alloc (.cells #[.slice none 0 0, .slice none 0 0, .slice none 0 0, .slice none 0 0, .slice none 0 0] 76)).heap.size := bz.lt
        replace hwC := below_then hbA hwC.size hwC
        replace bxC := bxC.on hbA
        replace brC := brC.on hbA
        replace hoI := hoI.below hbA
        have q0 := bxC.c0; have q1 := bxC.c1; have q2 := bxC.c2
        generalize wI.alloc (.cells #[.slice none 0 0, .slice none 0 0, .slice none 0 0, .slice none 0 0, .slice none 0 0] 76) = wA at *
        refine callH9 (by kernel_rfl) (fun K hK => ?_)
        refine step_of_list (by rfl) (wp_makeR (.tmp 19) (by rfl) wA n2 (by rfl) (by omega) ?_)
        intro wR hoR hbR
        have lR : wA.heap.size < wR.heap.size := (World.ownsRow.lt hoR _ rfl).2
        replace hwC := below_then hbR hwC.size hwC
        replace bxC := bxC.on hbR
        replace brC := brC.on hbR
        replace hoI := hoI.below hbR
        replace bz := bz.on hbR
        have q0 := bxC.c0; have q1 := bxC.c1; have q2 := bxC.c2
        refine hK.out _ _ (⟨q0, q1, q2⟩) (fun hHeld => ?_)
        clear hK K
        try simp only [Act.put, List.setIfInBounds_toArray, List.set_cons_zero, List.set_cons_succ]
        refine takeH12 (v := ?_) (by kernel_rfl) (by kernel_rfl) (by kernel_rfl) (fun _ _ _ h => h) hHeld (by rfl) ?_ ?_
        rotate_left; · (intro w hSw; (try dsimp only at hSw); go_simp; try with_reducible rfl)
        try simp only [Act.put, List.setIfInBounds_toArray, List.set_cons_zero, List.set_cons_succ]
        refine callH14 (by kernel_rfl) (fun K hK => ?_)
        have z0 := bz.e0; have z1 := bz.e1; have z2 := bz.e2; have z3 := bz.e3; have z4 := bz.e4
        have y0 := bz.hot 0
        have y1 := bz.hot 1
        have y2 := bz.hot 2
        have y3 := bz.hot 3
        have y4 := bz.hot 4
        have sR : wA.heap.size < wR.heap.size := (World.ownsRow.lt hoR _ rfl).2
        have sI : wD.heap.size < wR.heap.size := (hoI.lt _ rfl).2
        have sA : wI.heap.size < wR.heap.size := bz.lt
        have hch := Chg.set5 wR (wI.heap.size) (.slice A0 n2 c0) (.slice A2 n2 c2) (.slice A1 n2 c1) (.slice (some ⟨wA.heap.size, 0, none⟩) n2 n2) (.slice (some ⟨wD.heap.size, 0, none⟩) n2 n2)
        have hz5 := bz.set5 (.slice A0 n2 c0) (.slice A2 n2 c2) (.slice A1 n2 c1) (.slice (some ⟨wA.heap.size, 0, none⟩) n2 n2) (.slice (some ⟨wD.heap.size, 0, none⟩) n2 n2)
        have hR5 := row_chg hoR hch (fun b hb e => by have h4 : some wA.heap.size = some b := hb; injection h4 with h4; have h5 : b = wI.heap.size := e; omega)
        have hI5 := hoI.chg hch (fun b hb e => by have h4 : some wD.heap.size = some b := hb; injection h4 with h4; have h5 : b = wI.heap.size := e; omega)
        have hx5 := (hch.block _ bxC.lt (fun e => by have h5 : w.heap.size = wI.heap.size := e; omega)).trans bxC
        have hr5 := (hch.block _ brC.lt (fun e => by have h5 : w.heap.size + 1 = wI.heap.size := e; omega)).trans brC
        have hw5 := hwC.trans (hch.below hwC.size (fun x hx => by have h5 : x = wI.heap.size := hx; omega))
        have q0A : (((((wR.setCell ⟨wI.heap.size, 0, none⟩ (.slice A0 n2 c0)).setCell ⟨wI.heap.size, 1, none⟩ (.slice A2 n2 c2)).setCell ⟨wI.heap.size, 2, none⟩ (.slice A1 n2 c1)).setCell ⟨wI.heap.size, 3, none⟩ (.slice (some ⟨wA.heap.size, 0, none⟩) n2 n2)).setCell ⟨wI.heap.size, 4, none⟩ (.slice (some ⟨wD.heap.size, 0, none⟩) n2 n2)).cell? ⟨w.heap.size, 0, none⟩ = some (.slice A0 n2 c0) := Box.c0 (w := (((((wR.setCell ⟨wI.heap.size, 0, none⟩ (.slice A0 n2 c0)).setCell ⟨wI.heap.size, 1, none⟩ (.slice A2 n2 c2)).setCell ⟨wI.heap.size, 2, none⟩ (.slice A1 n2 c1)).setCell ⟨wI.heap.size, 3, none⟩ (.slice (some ⟨wA.heap.size, 0, none⟩) n2 n2)).setCell ⟨wI.heap.size, 4, none⟩ (.slice (some ⟨wD.heap.size, 0, none⟩) n2 n2))) (t := 34) hx5
        have q1A : (((((wR.setCell ⟨wI.heap.size, 0, none⟩ (.slice A0 n2 c0)).setCell ⟨wI.heap.size, 1, none⟩ (.slice A2 n2 c2)).setCell ⟨wI.heap.size, 2, none⟩ (.slice A1 n2 c1)).setCell ⟨wI.heap.size, 3, none⟩ (.slice (some ⟨wA.heap.size, 0, none⟩) n2 n2)).setCell ⟨wI.heap.size, 4, none⟩ (.slice (some ⟨wD.heap.size, 0, none⟩) n2 n2)).cell? ⟨w.heap.size, 1, none⟩ = some (.slice A1 n2 c1) := Box.c1 (w := (((((wR.setCell ⟨wI.heap.size, 0, none⟩ (.slice A0 n2 c0)).setCell ⟨wI.heap.size, 1, none⟩ (.slice A2 n2 c2)).setCell ⟨wI.heap.size, 2, none⟩ (.slice A1 n2 c1)).setCell ⟨wI.heap.size, 3, none⟩ (.slice (some ⟨wA.heap.size, 0, none⟩) n2 n2)).setCell ⟨wI.heap.size, 4, none⟩ (.slice (some ⟨wD.heap.size, 0, none⟩) n2 n2))) (t := 34) hx5
        have q2A : (((((wR.setCell ⟨wI.heap.size, 0, none⟩ (.slice A0 n2 c0)).setCell ⟨wI.heap.size, 1, none⟩ (.slice A2 n2 c2)).setCell ⟨wI.heap.size, 2, none⟩ (.slice A1 n2 c1)).setCell ⟨wI.heap.size, 3, none⟩ (.slice (some ⟨wA.heap.size, 0, none⟩) n2 n2)).setCell ⟨wI.heap.size, 4, none⟩ (.slice (some ⟨wD.heap.size, 0, none⟩) n2 n2)).cell? ⟨w.heap.size, 2, none⟩ = some (.slice A2 n2 c2) := Box.c2 (w := (((((wR.setCell ⟨wI.heap.size, 0, none⟩ (.slice A0 n2 c0)).setCell ⟨wI.heap.size, 1, none⟩ (.slice A2 n2 c2)).setCell ⟨wI.heap.size, 2, none⟩ (.slice A1 n2 c1)).setCell ⟨wI.heap.size, 3, none⟩ (.slice (some ⟨wA.heap.size, 0, none⟩) n2 n2)).setCell ⟨wI.heap.size, 4, none⟩ (.slice (some ⟨wD.heap.size, 0, none⟩) n2 n2))) (t := 34) hx5
        go_simp
        refine hK.out _ _ (⟨q0A, q1A, q2A⟩) (fun hHeld => ?_)
        clear hK K
        try simp only [Act.put, List.setIfInBounds_toArray, List.set_cons_zero, List.set_cons_succ]
        obtain ⟨⟨xb, hxb⟩, ⟨xp, hxp⟩, ⟨xk, hxk⟩⟩ : (∃ x, x = wI.heap.size) ∧ (∃ x, x = wA.heap.size) ∧ (∃ x, x = wD.heap.size) := ⟨⟨_, rfl⟩, ⟨_, rfl⟩, ⟨_, rfl⟩⟩
        clear hxb hxp hxk
        have HN := Lib.hid (show wI.heap.size ≠ wA.heap.size ∧ wI.heap.size ≠ wD.heap.size ∧ wA.heap.size ≠ wD.heap.size ∧ w.heap.size + 2 ≤ wI.heap.size ∧ w.heap.size + 2 ≤ wA.heap.size ∧ w.heap.size + 2 ≤ wD.heap.size from ⟨by omega, by omega, by omega, by omega, by omega, by omega⟩)
        refine wpAnyH_done (by kernel_rfl) ?_ _
        go_wp2_with fail; go_meet
        refine Lib.hid ⟨wI.heap.size, wA.heap.size, wD.heap.size, rfl, hz5, row_more hR5 (by omega), hI5.more (by omega), HN.out, hx5, hr5, hw5⟩
    · have q0A : (wD.alloc (.cells #[.slice none 0 0, .slice none 0 0, .slice none 0 0, .slice none 0 0, .slice none 0 0] 76)).cell? ⟨w.heap.size, 0, none⟩ = some (.slice A0 n2 c0) := keepA q0
      have q1A : (wD.alloc (.cells #[.slice none 0 0, .slice none 0 0, .slice none 0 0, .slice none 0 0, .slice none 0 0] 76)).cell? ⟨w.heap.size, 1, none⟩ = some (.slice A1 n2 c1) := keepA q1
      have q2A : (wD.alloc (.cells #[.slice none 0 0, .slice none 0 0, .slice none 0 0, .slice none 0 0, .slice none 0 0] 76)).cell? ⟨w.heap.size, 2, none⟩ = some (.slice A2 n2 c2) := keepA q2
      go_simp
      refine hK.out _ _ (⟨q0A, q1A, q2A⟩) (fun hHeld => ?_)
      clear hK K
      try simp only [Act.put, List.setIfInBounds_toArray, List.set_cons_zero, List.set_cons_succ]
      have hbA : Below wD.heap.size wD (wD.alloc (.cells #[.slice none 0 0, .slice none 0 0, .slice none 0 0, .slice none 0 0, .slice none 0 0] 76)) := below_alloc (Nat.le_refl _) (Below.refl _ _)
      have bz : Box (wD.alloc (.cells #[.slice none 0 0, .slice none 0 0, .slice none 0 0, .slice none 0 0, .slice none 0 0] 76)) wD.heap.size 76 #[.slice none 0 0, .slice none 0 0, .slice none 0 0, .slice none 0 0, .slice none 0 0] := Box.new _ _ _
      have lA : wD.heap.size < (wD.alloc (.cells #[.slice none 0 0, .slice none 0 0, .slice none 0 0, .slice none 0 0, .slice none 0 0] 76)).heap.size := bz.lt
      replace hwC := below_then hbA hwC.size hwC
      replace bxC := bxC.on hbA
      replace brC := brC.on hbA
      have q0 := bxC.c0; have q1 := bxC.c1; have q2 := bxC.c2
      generalize wD.alloc (.cells #[.slice none 0 0, .slice none 0 0, .slice none 0 0, .slice none 0 0, .slice none 0 0] 76) = wA at *
      refine twoH_9_11 (by kernel_rfl) (fun K hK => ?_) (fun K hK => ?_)
      · refine step_of_list (by rfl) (wp_makeR (.tmp 19) (by rfl) wA n2 (by rfl) (by omega) ?_)
        intro wR hoR hbR
        have lR : wA.heap.size < wR.heap.size := (World.ownsRow.lt hoR _ rfl).2
        replace hwC := below_then hbR hwC.size hwC
        replace bxC := bxC.on hbR
        replace brC := brC.on hbR
        replace bz := bz.on hbR
        have q0 := bxC.c0; have q1 := bxC.c1; have q2 := bxC.c2
        refine hK.out _ _ (⟨q0, q1, q2⟩) (fun hHeld => ?_)
        clear hK K
        try simp only [Act.put, List.setIfInBounds_toArray, List.set_cons_zero, List.set_cons_succ]
        refine callH11 (by kernel_rfl) (fun K hK => ?_)
        refine step_of_list (by rfl) (wp_makeI (.tmp 21) (by rfl) wR n2 (by rfl) (by omega) ?_)
        intro wI hoI hbI
        have lI : wR.heap.size < wI.heap.size := (hoI.lt _ rfl).2
        replace hwC := below_then hbI hwC.size hwC
        replace bxC := bxC.on hbI
        replace brC := brC.on hbI
        replace hoR := row_below hoR hbI
        replace bz := bz.on hbI
        have q0 := bxC.c0; have q1 := bxC.c1; have q2 := bxC.c2
        refine hK.out _ _ (⟨q0, q1, q2⟩) (fun hHeld => ?_)
        clear hK K
        try simp only [Act.put, List.setIfInBounds_toArray, List.set_cons_zero, List.set_cons_succ]
        refine takeH12 (v := ?_) (by kernel_rfl) (by kernel_rfl) (by kernel_rfl) (fun _ _ _ h => h) hHeld (by rfl) ?_ ?_
        rotate_left; · (intro w hSw; (try dsimp only at hSw); go_simp; try with_reducible rfl)
        try simp only [Act.put, List.setIfInBounds_toArray, List.set_cons_zero, List.set_cons_succ]
        refine callH14 (by kernel_rfl) (fun K hK => ?_)
        have z0 := bz.e0; have z1 := bz.e1; have z2 := bz.e2; have z3 := bz.e3; have z4 := bz.e4
        have y0 := bz.hot 0
        have y1 := bz.hot 1
        have y2 := bz.hot 2
        have y3 := bz.hot 3
        have y4 := bz.hot 4
        have sR : wA.heap.size < wI.heap.size := (World.ownsRow.lt hoR _ rfl).2
        have sI : wR.heap.size < wI.heap.size := (hoI.lt _ rfl).2
        have sA : wD.heap.size < wI.heap.size := bz.lt
        have hch := Chg.set5 wI (wD.heap.size) (.slice A0 n2 c0) (.slice A2 n2 c2) (.slice A1 n2 c1) (.slice (some ⟨wA.heap.size, 0, none⟩) n2 n2) (.slice (some ⟨wR.heap.size, 0, none⟩) n2 n2)
        have hz5 := bz.set5 (.slice A0 n2 c0) (.slice A2 n2 c2) (.slice A1 n2 c1) (.slice (some ⟨wA.heap.size, 0, none⟩) n2 n2) (.slice (some ⟨wR.heap.size, 0, none⟩) n2 n2)
        have hR5 := row_chg hoR hch (fun b hb e => by have h4 : some wA.heap.size = some b := hb; injection h4 with h4; have h5 : b = wD.heap.size := e; omega)
        have hI5 := hoI.chg hch (fun b hb e => by have h4 : some wR.heap.size = some b := hb; injection h4 with h4; have h5 : b = wD.heap.size := e; omega)
        have hx5 := (hch.block _ bxC.lt (fun e => by have h5 : w.heap.size = wD.heap.size := e; omega)).trans bxC
        have hr5 := (hch.block _ brC.lt (fun e => by have h5 : w.heap.size + 1 = wD.heap.size := e; omega)).trans brC
        have hw5 := hwC.trans (hch.below hwC.size (fun x hx => by have h5 : x = wD.heap.size := hx; omega))
        have q0A : (((((wI.setCell ⟨wD.heap.size, 0, none⟩ (.slice A0 n2 c0)).setCell ⟨wD.heap.size, 1, none⟩ (.slice A2 n2 c2)).setCell ⟨wD.heap.size, 2, none⟩ (.slice A1 n2 c1)).setCell ⟨wD.heap.size, 3, none⟩ (.slice (some ⟨wA.heap.size, 0, none⟩) n2 n2)).setCell ⟨wD.heap.size, 4, none⟩ (.slice (some ⟨wR.heap.size, 0, none⟩) n2 n2)).cell? ⟨w.heap.size, 0, none⟩ = some (.slice A0 n2 c0) := Box.c0 (w := (((((wI.setCell ⟨wD.heap.size, 0, none⟩ (.slice A0 n2 c0)).setCell ⟨wD.heap.size, 1, none⟩ (.slice A2 n2 c2)).setCell ⟨wD.heap.size, 2, none⟩ (.slice A1 n2 c1)).setCell ⟨wD.heap.size, 3, none⟩ (.slice (some ⟨wA.heap.size, 0, none⟩) n2 n2)).setCell ⟨wD.heap.size, 4, none⟩ (.slice (some ⟨wR.heap.size, 0, none⟩) n2 n2))) (t := 34) hx5
        have q1A : (((((wI.setCell ⟨wD.heap.size, 0, none⟩ (.slice A0 n2 c0)).setCell ⟨wD.heap.size, 1, none⟩ (.slice A2 n2 c2)).setCell ⟨wD.heap.size, 2, none⟩ (.slice A1 n2 c1)).setCell ⟨wD.heap.size, 3, none⟩ (.slice (some ⟨wA.heap.size, 0, none⟩) n2 n2)).setCell ⟨wD.heap.size, 4, none⟩ (.slice (some ⟨wR.heap.size, 0, none⟩) n2 n2)).cell? ⟨w.heap.size, 1, none⟩ = some (.slice A1 n2 c1) := Box.c1 (w := (((((wI.setCell ⟨wD.heap.size, 0, none⟩ (.slice A0 n2 c0)).setCell ⟨wD.heap.size, 1, none⟩ (.slice A2 n2 c2)).setCell ⟨wD.heap.size, 2, none⟩ (.slice A1 n2 c1)).setCell ⟨wD.heap.size, 3, none⟩ (.slice (some ⟨wA.heap.size, 0, none⟩) n2 n2)).setCell ⟨wD.heap.size, 4, none⟩ (.slice (some ⟨wR.heap.size, 0, none⟩) n2 n2))) (t := 34) hx5
        have q2A : (((((wI.setCell ⟨wD.heap.size, 0, none⟩ (.slice A0 n2 c0)).setCell ⟨wD.heap.size, 1, none⟩ (.slice A2 n2 c2)).setCell ⟨wD.heap.size, 2, none⟩ (.slice A1 n2 c1)).setCell ⟨wD.heap.size, 3, none⟩ (.slice (some ⟨wA.heap.size, 0, none⟩) n2 n2)).setCell ⟨wD.heap.size, 4, none⟩ (.slice (some ⟨wR.heap.size, 0, none⟩) n2 n2)).cell? ⟨w.heap.size, 2, none⟩ = some (.slice A2 n2 c2) := Box.c2 (w := (((((wI.setCell ⟨wD.heap.size, 0, none⟩ (.slice A0 n2 c0)).setCell ⟨wD.heap.size, 1, none⟩ (.slice A2 n2 c2)).setCell ⟨wD.heap.size, 2, none⟩ (.slice A1 n2 c1)).setCell ⟨wD.heap.size, 3, none⟩ (.slice (some ⟨wA.heap.size, 0, none⟩) n2 n2)).setCell ⟨wD.heap.size, 4, none⟩ (.slice (some ⟨wR.heap.size, 0, none⟩) n2 n2))) (t := 34) hx5
        go_simp
        refine hK.out _ _ (⟨q0A, q1A, q2A⟩) (fun hHeld => ?_)
        clear hK K
        try simp only [Act.put, List.setIfInBounds_toArray, List.set_cons_zero, List.set_cons_succ]
        obtain ⟨⟨xb, hxb⟩, ⟨xp, hxp⟩, ⟨xk, hxk⟩⟩ : (∃ x, x = wD.heap.size) ∧ (∃ x, x = wA.heap.size) ∧ (∃ x, x = wR.heap.size) := ⟨⟨_, rfl⟩, ⟨_, rfl⟩, ⟨_, rfl⟩⟩
        clear hxb hxp hxk
        have HN := Lib.hid (show wD.heap.size ≠ wA.heap.size ∧ wD.heap.size ≠ wR.heap.size ∧ wA.heap.size ≠ wR.heap.size ∧ w.heap.size + 2 ≤ wD.heap.size ∧ w.heap.size + 2 ≤ wA.heap.size ∧ w.heap.size + 2 ≤ wR.heap.size from ⟨by omega, by omega, by omega, by omega, by omega, by omega⟩)
        refine wpAnyH_done (by kernel_rfl) ?_ _
        go_wp2_with fail; go_meet
        refine Lib.hid ⟨wD.heap.size, wA.heap.size, wR.heap.size, rfl, hz5, row_more hR5 (by omega), hI5.more (by omega), HN.out, hx5, hr5, hw5⟩
      · refine step_of_list (by rfl) (wp_makeI (.tmp 21) (by rfl) wA n2 (by rfl) (by omega) ?_)
        intro wI hoI hbI
        have lI : wA.heap.size < wI.heap.size := (hoI.lt _ rfl).2
        replace hwC := below_then hbI hwC.size hwC
        replace bxC := bxC.on hbI
        replace brC := brC.on hbI
        replace bz := bz.on hbI
        have q0 := bxC.c0; have q1 := bxC.c1; have q2 := bxC.c2
        refine hK.out _ _ (⟨q0, q1, q2⟩) (fun hHeld => ?_)
        clear hK K
        try simp only [Act.put, List.setIfInBounds_toArray, List.set_cons_zero, List.set_cons_succ]
        refine callH9 (by kernel_rfl) (fun K hK => ?_)
        refine step_of_list (by rfl) (wp_makeR (.tmp 19) (by rfl) wI n2 (by rfl) (by omega) ?_)
        intro wR hoR hbR
        have lR : wI.heap.size < wR.heap.size := (World.ownsRow.lt hoR _ rfl).2
        replace hwC := below_then hbR hwC.size hwC
        replace bxC := bxC.on hbR
        replace brC := brC.on hbR
        replace hoI := hoI.below hbR
        replace bz := bz.on hbR
        have q0 := bxC.c0; have q1 := bxC.c1; have q2 := bxC.c2
        refine hK.out _ _ (⟨q0, q1, q2⟩) (fun hHeld => ?_)
        clear hK K
        try simp only [Act.put, List.setIfInBounds_toArray, List.set_cons_zero, List.set_cons_succ]
        refine takeH12 (v := ?_) (by kernel_rfl) (by kernel_rfl) (by kernel_rfl) (fun _ _ _ h => h) hHeld (by rfl) ?_ ?_
        rotate_left; · (intro w hSw; (try dsimp only at hSw); go_simp; try with_reducible rfl)
        try simp only [Act.put, List.setIfInBounds_toArray, List.set_cons_zero, List.set_cons_succ]
        refine callH14 (by kernel_rfl) (fun K hK => ?_)
        have z0 := bz.e0; have z1 := bz.e1; have z2 := bz.e2; have z3 := bz.e3; have z4 := bz.e4
        have y0 := bz.hot 0
        have y1 := bz.hot 1
        have y2 := bz.hot 2
        have y3 := bz.hot 3
        have y4 := bz.hot 4
        have sR : wI.heap.size < wR.heap.size := (World.ownsRow.lt hoR _ rfl).2
        have sI : wA.heap.size < wR.heap.size := (hoI.lt _ rfl).2
        have sA : wD.heap.size < wR.heap.size := bz.lt
        have hch := Chg.set5 wR (wD.heap.size) (.slice A0 n2 c0) (.slice A2 n2 c2) (.slice A1 n2 c1) (.slice (some ⟨wI.heap.size, 0, none⟩) n2 n2) (.slice (some ⟨wA.heap.size, 0, none⟩) n2 n2)
        have hz5 := bz.set5 (.slice A0 n2 c0) (.slice A2 n2 c2) (.slice A1 n2 c1) (.slice (some ⟨wI.heap.size, 0, none⟩) n2 n2) (.slice (some ⟨wA.heap.size, 0, none⟩) n2 n2)
        have hR5 := row_chg hoR hch (fun b hb e => by have h4 : some wI.heap.size = some b := hb; injection h4 with h4; have h5 : b = wD.heap.size := e; omega)
        have hI5 := hoI.chg hch (fun b hb e => by have h4 : some wA.heap.size = some b := hb; injection h4 with h4; have h5 : b = wD.heap.size := e; omega)
        have hx5 := (hch.block _ bxC.lt (fun e => by have h5 : w.heap.size = wD.heap.size := e; omega)).trans bxC
        have hr5 := (hch.block _ brC.lt (fun e => by have h5 : w.heap.size + 1 = wD.heap.size := e; omega)).trans brC
        have hw5 := hwC.trans (hch.below hwC.size (fun x hx => by have h5 : x = wD.heap.size := hx; omega))
        have q0A : (((((wR.setCell ⟨wD.heap.size, 0, none⟩ (.slice A0 n2 c0)).setCell ⟨wD.heap.size, 1, none⟩ (.slice A2 n2 c2)).setCell ⟨wD.heap.size, 2, none⟩ (.slice A1 n2 c1)).setCell ⟨wD.heap.size, 3, none⟩ (.slice (some ⟨wI.heap.size, 0, none⟩) n2 n2)).setCell ⟨wD.heap.size, 4, none⟩ (.slice (some ⟨wA.heap.size, 0, none⟩) n2 n2)).cell? ⟨w.heap.size, 0, none⟩ = some (.slice A0 n2 c0) := Box.c0 (w := (((((wR.setCell ⟨wD.heap.size, 0, none⟩ (.slice A0 n2 c0)).setCell ⟨wD.heap.size, 1, none⟩ (.slice A2 n2 c2)).setCell ⟨wD.heap.size, 2, none⟩ (.slice A1 n2 c1)).setCell ⟨wD.heap.size, 3, none⟩ (.slice (some ⟨wI.heap.size, 0, none⟩) n2 n2)).setCell ⟨wD.heap.size, 4, none⟩ (.slice (some ⟨wA.heap.size, 0, none⟩) n2 n2))) (t := 34) hx5
        have q1A : (((((wR.setCell ⟨wD.heap.size, 0, none⟩ (.slice A0 n2 c0)).setCell ⟨wD.heap.size, 1, none⟩ (.slice A2 n2 c2)).setCell ⟨wD.heap.size, 2, none⟩ (.slice A1 n2 c1)).setCell ⟨wD.heap.size, 3, none⟩ (.slice (some ⟨wI.heap.size, 0, none⟩) n2 n2)).setCell ⟨wD.heap.size, 4, none⟩ (.slice (some ⟨wA.heap.size, 0, none⟩) n2 n2)).cell? ⟨w.heap.size, 1, none⟩ = some (.slice A1 n2 c1) := Box.c1 (w := (((((wR.setCell ⟨wD.heap.size, 0, none⟩ (.slice A0 n2 c0)).setCell ⟨wD.heap.size, 1, none⟩ (.slice A2 n2 c2)).setCell ⟨wD.heap.size, 2, none⟩ (.slice A1 n2 c1)).setCell ⟨wD.heap.size, 3, none⟩ (.slice (some ⟨wI.heap.size, 0, none⟩) n2 n2)).setCell ⟨wD.heap.size, 4, none⟩ (.slice (some ⟨wA.heap.size, 0, none⟩) n2 n2))) (t := 34) hx5
        have q2A : (((((wR.setCell ⟨wD.heap.size, 0, none⟩ (.slice A0 n2 c0)).setCell ⟨wD.heap.size, 1, none⟩ (.slice A2 n2 c2)).setCell ⟨wD.heap.size, 2, none⟩ (.slice A1 n2 c1)).setCell ⟨wD.heap.size, 3, none⟩ (.slice (some ⟨wI.heap.size, 0, none⟩) n2 n2)).setCell ⟨wD.heap.size, 4, none⟩ (.slice (some ⟨wA.heap.size, 0, none⟩) n2 n2)).cell? ⟨w.heap.size, 2, none⟩ = some (.slice A2 n2 c2) := Box.c2 (w := (((((wR.setCell ⟨wD.heap.size, 0, none⟩ (.slice A0 n2 c0)).setCell ⟨wD.heap.size, 1, none⟩ (.slice A2 n2 c2)).setCell ⟨wD.heap.size, 2, none⟩ (.slice A1 n2 c1)).setCell ⟨wD.heap.size, 3, none⟩ (.slice (some ⟨wI.heap.size, 0, none⟩) n2 n2)).setCell ⟨wD.heap.size, 4, none⟩ (.slice (some ⟨wA.heap.size, 0, none⟩) n2 n2))) (t := 34) hx5
        go_simp
        refine hK.out _ _ (⟨q0A, q1A, q2A⟩) (fun hHeld => ?_)
        clear hK K
        try simp only [Act.put, List.setIfInBounds_toArray, List.set_cons_zero, List.set_cons_succ]
        obtain ⟨⟨xb, hxb⟩, ⟨xp, hxp⟩, ⟨xk, hxk⟩⟩ : (∃ x, x = wD.heap.size) ∧ (∃ x, x = wI.heap.size) ∧ (∃ x, x = wA.heap.size) := ⟨⟨_, rfl⟩, ⟨_, rfl⟩, ⟨_, rfl⟩⟩
        clear hxb hxp hxk
        have HN := Lib.hid (show wD.heap.size ≠ wI.heap.size ∧ wD.heap.size ≠ wA.heap.size ∧ wI.heap.size ≠ wA.heap.size ∧ w.heap.size + 2 ≤ wD.heap.size ∧ w.heap.size + 2 ≤ wI.heap.size ∧ w.heap.size + 2 ≤ wA.heap.size from ⟨by omega, by omega, by omega, by omega, by omega, by omega⟩)
        refine wpAnyH_done (by kernel_rfl) ?_ _
        go_wp2_with fail; go_meet
        refine Lib.hid ⟨wD.heap.size, wI.heap.size, wA.heap.size, rfl, hz5, row_more hR5 (by omega), hI5.more (by omega), HN.out, hx5, hr5, hw5⟩
  case rest =>
    obtain ⟨bb, bp, bk, rfl, bb_, hpr0, hpk0, ⟨hne1, hne2, hne3, hlb, hlp, hlk⟩, bx_, br_, hwc⟩ := hcut.out
    clear hcut q0 q1 q2 hba bxL brL
    have hbl := bb_.lt
    have hpl : bp < wc.heap.size := (World.ownsRow.lt hpr0 _ rfl).2
    have hkl : bk < wc.heap.size := (hpk0.lt _ rfl).2
    have hp0 : PrevAt wc (w.heap.size + 2) wc.heap.size bp n2 (fun u => castL (pvUp g.2.1 0 0 u)) := ⟨_, hpr0, (OL.nil rfl).congr (fun i hi => by rw [pvUp_zero]; rfl), Dis.nil⟩
    clear hpr0
    go_wp2
    go_loopw [5] (fun i wr => ∃ v : Nat, v ≤ n2 ∧ i = .int .i64 v ∧ PrevAt wr (w.heap.size + 2) wc.heap.size bp n2 (fun u => castL (pvUp g.2.1 v 0 u)) ∧ OI 2 wr (w.heap.size + 2) (.slice (some ⟨bk, 0, none⟩) n2 n2) (fillUp (fun _ => -1) n2 (fun _ => 0) v) ∧ Chg (fun b => b = bp ∨ b = bk) wc wr) (fun i _ => n2 - (intOf i).toNat)
    case atStart => exact ⟨0, Nat.zero_le _, rfl, hp0, by rw [fillUp_zero, ← fill_zeros]; exact hpk0, Chg.refl _ _⟩
    case round =>
      clear hp0 hpk0
      obtain ⟨v, hv, rfl, hp, hk, hC⟩ := hrel
      have bbr : Box wr bb 76 #[.slice A0 n2 c0, .slice A2 n2 c2, .slice A1 n2 c1, .slice (some ⟨bp, 0, none⟩) n2 n2, .slice (some ⟨bk, 0, none⟩) n2 n2] := (hC.block _ bb_.lt (fun e => by omega)).trans bb_
      have bxr : Box wr w.heap.size 34 #[.slice A0 n2 c0, .slice A1 n2 c1, .slice A2 n2 c2] := (hC.block _ bx_.lt (fun e => by omega)).trans bx_
      have hwr : Below w.heap.size w wr := hwc.trans (hC.below hwc.size (fun x hx => by omega))
      by_cases hlt : v < n2
      · have q0 := bxr.c0; have q1 := bxr.c1
        have e3 := bbr.e3; have e4 := bbr.e4
        obtain ⟨bn, on, An, nn, cn_, rfl, hcn, rn⟩ := hrr.at_ hlt
        have kn := below_cell hwr hcn
        have lbn := cell_lt hcn
        have hvi : (v : Int) < (n2 : Int) := by omega
        have hv0 : (0 : Int) ≤ (v : Int) := by omega
        have HR := Lib.hid (HF.out.1.2.2.2 v (by rw [HL.out]; exact hlt)).2.2
        have HNN := Lib.hid rn.len
        have d1 := rn.cap; have d2 := rn.top
        have hcm := hk.cellAt (i := v) (by rw [fillUp_len]; exact hlt)
        have hfz := hk.hot (i := v) (by rw [fillUp_len])
        have HX := Lib.hid (fillUp_put (f := fun _ => -1) (g := fun _ => 0) hlt)
        have nek1 : ¬ bk = w.heap.size := by omega
        have nek2 : ¬ bk = bn := by omega
        have nek3 : ¬ bk = bb := by omega
        have chS : Chg (fun b => b = bk) wr (wr.setCell ⟨bk, v, none⟩ (.int .i64 (-1))) := Chg.set ⟨bk, v, none⟩ (.int .i64 (-1))
        have hk2 : OI 2 (wr.setCell ⟨bk, v, none⟩ (.int .i64 (-1))) (w.heap.size + 2) (.slice (some ⟨bk, 0, none⟩) n2 n2) (fillUp (fun _ => -1) n2 (fun _ => 0) (v + 1)) := by rw [← HX.out]; exact hk.set_ (by rw [fillUp_len]) _
        have hp2 := hp.chg chS (fun e => by omega) (fun b hb => by have h3 : b = bk := hb; omega)
        have hC2 := hC.push chS (fun x hx => .inl (.inr hx))
        clear hp hk
        go_wp2
        go_loopw [6] (fun i wr => ∃ i' : Nat, i' ≤ nn ∧ i = .int .i64 i' ∧ Hid (PrevAt wr (w.heap.size + 2) wc.heap.size bp n2 (fun u => castL (pvUp g.2.1 v i' u)) ∧ OI 2 wr (w.heap.size + 2) (.slice (some ⟨bk, 0, none⟩) n2 n2) (fillUp (fun _ => -1) n2 (fun _ => 0) (v + 1)) ∧ Chg (fun b => b = bp ∨ b = bk) wc wr)) (fun i _ => nn - (intOf i).toNat)
        case atStart => exact ⟨0, Nat.zero_le _, rfl, Lib.hid ⟨hp2, hk2, hC2⟩⟩
        case round =>
          clear hp2 hk2 hC2 chS hC bbr bxr hwr q0 q1 e3 e4 kn hcm hfz
          obtain ⟨i, hi, rfl, hrel2⟩ := hrel
          obtain ⟨⟨cs, hpr, hol, hdis⟩, hk, hC⟩ := hrel2.out
          clear hrel2
          have bbr : Box wr bb 76 #[.slice A0 n2 c0, .slice A2 n2 c2, .slice (some ⟨bn, on, none⟩) n2 c1, .slice (some ⟨bp, 0, none⟩) n2 n2, .slice (some ⟨bk, 0, none⟩) n2 n2] := (hC.block _ bb_.lt (fun e => by omega)).trans bb_
          have bxr : Box wr w.heap.size 34 #[.slice A0 n2 c0, .slice (some ⟨bn, on, none⟩) n2 c1, .slice A2 n2 c2] := (hC.block _ bx_.lt (fun e => by omega)).trans bx_
          have hwr : Below w.heap.size w wr := hwc.trans (hC.below hwc.size (fun x hx => by omega))
          have q0 := bxr.c0; have q1 := bxr.c1
          have kn := below_cell hwr hcn
          by_cases hil : i < nn
          · have hrb := set_mem HR.out (gi_mem (xs := gl g.2.1 v) (i := i) (by rw [HNN.out]; exact hil))
            obtain ⟨u, hu⟩ := Int.eq_ofNat_of_zero_le hrb.1
            have hun : u < n2 := by have := hrb.2; rw [HL.out] at this; omega
            obtain ⟨br, or_, rfl, hcr⟩ := (rn.keep (keeps_below hwr)).at_ hil
            rw [hu] at hcr
            have HU := Lib.hid hu
            have hui : (u : Int) < (n2 : Int) := by omega
            have hu0 : (0 : Int) ≤ (u : Int) := by omega
            have hii : (i : Int) < (nn : Int) := by omega
            have hi0 : (0 : Int) ≤ (i : Int) := by omega
            have hcl : cs.length = n2 := by have := row_len hpr; omega
            have HCL := Lib.hid hcl
            have hrow : OI 2 wr wc.heap.size (gv cs u) (castL (pvUp g.2.1 v i u)) := hol u (by omega)
            obtain ⟨Au, cu, hgu⟩ := hrow.form
            have kc := row_cell hpr (j := u) (by omega)
            rw [hgu] at kc hrow
            have hxl : (castL (pvUp g.2.1 v i u)).length ≤ 4194304 := by have := pvUp_len g.2.1 v i u; unfold castL; rw [List.length_map]; omega
            have hld : wc.heap.size ≤ wr.heap.size := hC.size
            obtain ⟨nu, hnu⟩ : ∃ nu, nu = (castL (pvUp g.2.1 v i u)).length := ⟨_, rfl⟩
            rw [← hnu] at kc hrow hgu
            have HGU := Lib.hid hgu; have HNU := Lib.hid hnu
            have HFT := Lib.hid (show ∀ y, y < n2 → castL (pvUp g.2.1 v (i + 1) y) = if u = y then (castL (pvUp g.2.1 v i u)) ++ [(v : Int)] else castL (pvUp g.2.1 v i y) from fun y hy => by
              by_cases e : u = y
              · subst e
                rw [if_pos rfl, pvUp_hit HR.out (by rw [HNN.out]; exact hil) HU.out]
                unfold castL; rw [List.map_append]; rfl
              · rw [if_neg e, pvUp_miss (by rw [HNN.out]; exact hil) HU.out (fun h => e h.symm)])
            clear hrb hu hgu hnu hcl
            go_wp2_with fail
            have q3 := bbr.e3
            refine wp_region_held_drew (S := (fun w' => w'.cell? ⟨bb, 3, none⟩ = some (.slice (some ⟨bp, 0, none⟩) n2 n2))) (by kernel_rfl) (q3) (fun hHeld => ?_)
            replace hpr := row_below hpr (Below.drew (Below.refl wr.heap.size wr)); replace hol := hol.below (Below.drew (Below.refl wr.heap.size wr)); replace hk := hk.drew; replace hC : Chg (fun b => b = bp ∨ b = bk) wc wr.drew := hC.drewN 1; replace hrow := hrow.drew; replace kc : wr.drew.cell? _ = _ := kc; replace hld : wc.heap.size ≤ wr.drew.heap.size := hld
            have bb_ : Box wr.drew bb 76 #[.slice A0 n2 c0, .slice A2 n2 c2, .slice (some ⟨bn, on, none⟩) n2 c1, .slice (some ⟨bp, 0, none⟩) n2 n2, .slice (some ⟨bk, 0, none⟩) n2 n2] := bbr
            replace q3 := bb_.e3
            have hbd : bb < wr.drew.heap.size := bb_.lt
            clear bbr bxr q0 q1 kn hcr
            generalize hdr : wr.drew = wd at *
            clear hdr
            refine takeH0 (v := ?_) (by kernel_rfl) (by kernel_rfl) (by kernel_rfl) (fun _ _ _ h => h) hHeld (by rfl) ?_ ?_
            rotate_left; · (intro w hSw; (try dsimp only at hSw); go_simp; try with_reducible rfl)
            try simp only [Act.put, List.setIfInBounds_toArray, List.set_cons_zero, List.set_cons_succ]
            refine takeH1 (v := ?_) (by kernel_rfl) (by kernel_rfl) (by kernel_rfl) (fun _ _ _ h => h) hHeld (by rfl) ?_ ?_
            rotate_left; · (intro w hSw; (try dsimp only at hSw); go_simp; try with_reducible rfl)
            try simp only [Act.put, List.setIfInBounds_toArray, List.set_cons_zero, List.set_cons_succ]
            refine takeH2 (v := ?_) (by kernel_rfl) (by kernel_rfl) (by kernel_rfl) (fun _ _ _ h => h) hHeld (by rfl) ?_ ?_
            rotate_left; · (intro w hSw; (try dsimp only at hSw); go_simp; try with_reducible rfl)
            try simp only [Act.put, List.setIfInBounds_toArray, List.set_cons_zero, List.set_cons_succ]
            refine takeH3 (v := ?_) (by kernel_rfl) (by kernel_rfl) (by kernel_rfl) (fun _ _ _ h => h) hHeld (by rfl) ?_ ?_
            rotate_left; · (intro w hSw; (try dsimp only at hSw); go_simp; try with_reducible rfl)
            try simp only [Act.put, List.setIfInBounds_toArray, List.set_cons_zero, List.set_cons_succ]
            refine takeH4 (v := ?_) (by kernel_rfl) (by kernel_rfl) (by kernel_rfl) (fun _ _ _ h => h) hHeld (by rfl) ?_ ?_
            rotate_left; · (intro w hSw; (try dsimp only at hSw); go_simp; try with_reducible rfl)
            try simp only [Act.put, List.setIfInBounds_toArray, List.set_cons_zero, List.set_cons_succ]
            refine takeH5 (v := ?_) (by kernel_rfl) (by kernel_rfl) (by kernel_rfl) (fun _ _ _ h => h) hHeld (by rfl) ?_ ?_
            rotate_left; · (intro w hSw; (try dsimp only at hSw); go_simp; try with_reducible rfl)
            try simp only [Act.put, List.setIfInBounds_toArray, List.set_cons_zero, List.set_cons_succ]
            refine takeH6 (v := ?_) (by kernel_rfl) (by kernel_rfl) (by kernel_rfl) (fun _ _ _ h => h) hHeld (by rfl) ?_ ?_
            rotate_left; · (intro w hSw; (try dsimp only at hSw); go_simp; try with_reducible rfl)
            try simp only [Act.put, List.setIfInBounds_toArray, List.set_cons_zero, List.set_cons_succ]
            refine takeH8 (v := ?_) (by kernel_rfl) (by kernel_rfl) (by kernel_rfl) (fun _ _ _ h => h) hHeld (by rfl) ?_ ?_
            rotate_left; · (intro w hSw; (try dsimp only at hSw); go_simp; try with_reducible rfl)
            try simp only [Act.put, List.setIfInBounds_toArray, List.set_cons_zero, List.set_cons_succ]
            refine twoH_7_9 (by kernel_rfl) (fun K hK => ?_) (fun K hK => ?_)
            · go_simp
              refine hK.out _ _ (q3) (fun hHeld => ?_)
              clear hK K
              try simp only [Act.put, List.setIfInBounds_toArray, List.set_cons_zero, List.set_cons_succ]
              refine callH9 (by kernel_rfl) (fun K hK => ?_)
              have q3A : (wd.alloc (.cells #[.int .i64 (v : Int)] 2)).cell? ⟨bb, 3, none⟩ = some (.slice (some ⟨bp, 0, none⟩) n2 n2) := keepA q3
              go_simp
              refine hK.out _ _ (q3A) (fun hHeld => ?_)
              clear hK K
              try simp only [Act.put, List.setIfInBounds_toArray, List.set_cons_zero, List.set_cons_succ]
              refine callH10 (by kernel_rfl) (fun K hK => ?_)
              have hq1 : RI (wd.alloc (.cells #[.int .i64 (v : Int)] 2)) (some ⟨wd.heap.size, 0, none⟩) 1 1 [(v : Int)] := RI.one1 ((Box.new wd 2 #[.int .i64 (v : Int)]).cell 0)
              have hbA : Below wd.heap.size wd (wd.alloc (.cells #[.int .i64 (v : Int)] 2)) := below_alloc (Nat.le_refl _) (Below.refl _ _)
              have hrowA := hrow.below hbA
              have hlA : wc.heap.size ≤ (wd.alloc (.cells #[.int .i64 (v : Int)] 2)).heap.size := Nat.le_trans hld hbA.size
              refine step_of_list (by rfl) (wp_appI (.tmp 60) (.tmp 62) (by rfl) (wd.alloc (.cells #[.int .i64 (v : Int)] 2)) wc.heap.size (.slice Au nu cu) (castL (pvUp g.2.1 v i u)) (by rfl) hrowA (some ⟨wd.heap.size, 0, none⟩) 1 1 [(v : Int)] (by rfl) hq1 hxl (by omega) hlA ?_)
              intro v7_ w7 ho7 hb7 hc7 hat7
              obtain ⟨A7, c7, h7e⟩ := ho7.form
              have h7f : v7_ = .slice A7 (nu + 1) c7 := by rw [h7e, List.length_append, ← HNU.out]; rfl
              clear h7e
              subst h7f
              have hch7 : Chg (fun b => (Value.slice Au nu cu).ownBlock = some b) wd w7 := ((Chg.refl (fun _ => False) wd).alloc _).trans hc7 (fun _ h => h.elim) (fun _ h => h)
              have hat8 : ∀ b, (Value.slice A7 (nu + 1) c7).ownBlock = some b → (Value.slice Au nu cu).ownBlock = some b ∨ wd.heap.size ≤ b := fun b hb => (hat7 b hb).imp id (fun h => by have := hbA.size; omega)
              have hown7 : ∀ b, (Value.slice Au nu cu).ownBlock = some b → wc.heap.size ≤ b := fun b hb => (hrow.lt b hb).1
              have b37 : Box w7 bb 76 #[.slice A0 n2 c0, .slice A2 n2 c2, .slice (some ⟨bn, on, none⟩) n2 c1, .slice (some ⟨bp, 0, none⟩) n2 n2, .slice (some ⟨bk, 0, none⟩) n2 n2] := (hch7.block _ (by omega) (fun e => by have := hown7 _ e; omega)).trans bb_
              have q3 := b37.e3
              have hpr7 := row_chg hpr hch7 (fun b hb e => by have h4 : some bp = some b := hb; injection h4 with h4; have := hown7 _ e; omega)
              have kp7 := row_cell hpr7 (j := u) (by omega)
              have kf7 := hpr7.frozenAt u
              clear hq1 hrowA hat7 kc
              refine hK.out _ _ (q3) (fun hHeld => ?_)
              clear hK K
              try simp only [Act.put, List.setIfInBounds_toArray, List.set_cons_zero, List.set_cons_succ]
              refine takeH11 (v := ?_) (by kernel_rfl) (by kernel_rfl) (by kernel_rfl) (fun _ _ _ h => h) hHeld (by rfl) ?_ ?_
              rotate_left; · (intro w hSw; (try dsimp only at hSw); go_simp; try with_reducible rfl)
              try simp only [Act.put, List.setIfInBounds_toArray, List.set_cons_zero, List.set_cons_succ]
              refine callH12 (by kernel_rfl) (fun K hK => ?_)
              have chS : Chg (fun b => b = bp) w7 (w7.setCell ⟨bp, u, none⟩ (.slice A7 (nu + 1) c7)) := Chg.set ⟨bp, u, none⟩ (.slice A7 (nu + 1) c7)
              have b38 : Box (w7.setCell ⟨bp, u, none⟩ (.slice A7 (nu + 1) c7)) bb 76 #[.slice A0 n2 c0, .slice A2 n2 c2, .slice (some ⟨bn, on, none⟩) n2 c1, .slice (some ⟨bp, 0, none⟩) n2 n2, .slice (some ⟨bk, 0, none⟩) n2 n2] := b37.far (by show bb ≠ bp; omega) _
              have q3 := b38.e3
              go_simp
              refine hK.out _ _ (q3) (fun hHeld => ?_)
              clear hK K
              try simp only [Act.put, List.setIfInBounds_toArray, List.set_cons_zero, List.set_cons_succ]
              refine wpAnyH_done (by kernel_rfl) ?_ _
              have hpF : PrevAt (w7.setCell ⟨bp, u, none⟩ (.slice A7 (nu + 1) c7)) (w.heap.size + 2) wc.heap.size bp n2 (fun u => castL (pvUp g.2.1 v (i + 1) u)) := PrevAt.turn hpr hol hdis hun (by omega) (by rw [HGU.out]; exact hch7) ho7 (by rw [HGU.out]; exact hat8) HFT.out
              have hkF := (hk.chg hch7 (fun b hb e => by have h4 : some bk = some b := hb; injection h4 with h4; have := hown7 _ e; omega)).chg chS (fun b hb e => by have h4 : some bk = some b := hb; injection h4 with h4; have h5 : b = bp := e; omega)
              have hCF := (hC.push hch7 (fun x hx => .inr (hown7 x hx))).push chS (fun x hx => .inl (.inl hx))
              have HFin := Lib.hid (And.intro hpF (And.intro hkF hCF))
              clear hpF hkF hCF
              go_wp2
              exact ⟨⟨i + 1, by omega, by go_num, HFin⟩, by simp [intOf]; omega⟩
            · have q3A : (wd.alloc (.cells #[.int .i64 (v : Int)] 2)).cell? ⟨bb, 3, none⟩ = some (.slice (some ⟨bp, 0, none⟩) n2 n2) := keepA q3
              have kcA : ∀ o, (wd.alloc o).cell? ⟨bp, u, none⟩ = some (.slice Au nu cu) := fun o => keepA kc
              go_simp
              refine hK.out _ _ (q3A) (fun hHeld => ?_)
              clear hK K
              try simp only [Act.put, List.setIfInBounds_toArray, List.set_cons_zero, List.set_cons_succ]
              refine callH7 (by kernel_rfl) (fun K hK => ?_)
              go_simp
              refine hK.out _ _ (q3A) (fun hHeld => ?_)
              clear hK K
              try simp only [Act.put, List.setIfInBounds_toArray, List.set_cons_zero, List.set_cons_succ]
              refine callH10 (by kernel_rfl) (fun K hK => ?_)
              have hq1 : RI (wd.alloc (.cells #[.int .i64 (v : Int)] 2)) (some ⟨wd.heap.size, 0, none⟩) 1 1 [(v : Int)] := RI.one1 ((Box.new wd 2 #[.int .i64 (v : Int)]).cell 0)
              have hbA : Below wd.heap.size wd (wd.alloc (.cells #[.int .i64 (v : Int)] 2)) := below_alloc (Nat.le_refl _) (Below.refl _ _)
              have hrowA := hrow.below hbA
              have hlA : wc.heap.size ≤ (wd.alloc (.cells #[.int .i64 (v : Int)] 2)).heap.size := Nat.le_trans hld hbA.size
              refine step_of_list (by rfl) (wp_appI (.tmp 60) (.tmp 62) (by rfl) (wd.alloc (.cells #[.int .i64 (v : Int)] 2)) wc.heap.size (.slice Au nu cu) (castL (pvUp g.2.1 v i u)) (by rfl) hrowA (some ⟨wd.heap.size, 0, none⟩) 1 1 [(v : Int)] (by rfl) hq1 hxl (by omega) hlA ?_)
              intro v7_ w7 ho7 hb7 hc7 hat7
              obtain ⟨A7, c7, h7e⟩ := ho7.form
              have h7f : v7_ = .slice A7 (nu + 1) c7 := by rw [h7e, List.length_append, ← HNU.out]; rfl
              clear h7e
              subst h7f
              have hch7 : Chg (fun b => (Value.slice Au nu cu).ownBlock = some b) wd w7 := ((Chg.refl (fun _ => False) wd).alloc _).trans hc7 (fun _ h => h.elim) (fun _ h => h)
              have hat8 : ∀ b, (Value.slice A7 (nu + 1) c7).ownBlock = some b → (Value.slice Au nu cu).ownBlock = some b ∨ wd.heap.size ≤ b := fun b hb => (hat7 b hb).imp id (fun h => by have := hbA.size; omega)
              have hown7 : ∀ b, (Value.slice Au nu cu).ownBlock = some b → wc.heap.size ≤ b := fun b hb => (hrow.lt b hb).1
              have b37 : Box w7 bb 76 #[.slice A0 n2 c0, .slice A2 n2 c2, .slice (some ⟨bn, on, none⟩) n2 c1, .slice (some ⟨bp, 0, none⟩) n2 n2, .slice (some ⟨bk, 0, none⟩) n2 n2] := (hch7.block _ (by omega) (fun e => by have := hown7 _ e; omega)).trans bb_
              have q3 := b37.e3
              have hpr7 := row_chg hpr hch7 (fun b hb e => by have h4 : some bp = some b := hb; injection h4 with h4; have := hown7 _ e; omega)
              have kp7 := row_cell hpr7 (j := u) (by omega)
              have kf7 := hpr7.frozenAt u
              clear hq1 hrowA hat7 kc
              refine hK.out _ _ (q3) (fun hHeld => ?_)
              clear hK K
              try simp only [Act.put, List.setIfInBounds_toArray, List.set_cons_zero, List.set_cons_succ]
              refine takeH11 (v := ?_) (by kernel_rfl) (by kernel_rfl) (by kernel_rfl) (fun _ _ _ h => h) hHeld (by rfl) ?_ ?_
              rotate_left; · (intro w hSw; (try dsimp only at hSw); go_simp; try with_reducible rfl)
              try simp only [Act.put, List.setIfInBounds_toArray, List.set_cons_zero, List.set_cons_succ]
              refine callH12 (by kernel_rfl) (fun K hK => ?_)
              have chS : Chg (fun b => b = bp) w7 (w7.setCell ⟨bp, u, none⟩ (.slice A7 (nu + 1) c7)) := Chg.set ⟨bp, u, none⟩ (.slice A7 (nu + 1) c7)
              have b38 : Box (w7.setCell ⟨bp, u, none⟩ (.slice A7 (nu + 1) c7)) bb 76 #[.slice A0 n2 c0, .slice A2 n2 c2, .slice (some ⟨bn, on, none⟩) n2 c1, .slice (some ⟨bp, 0, none⟩) n2 n2, .slice (some ⟨bk, 0, none⟩) n2 n2] := b37.far (by show bb ≠ bp; omega) _
              have q3 := b38.e3
              go_simp
              refine hK.out _ _ (q3) (fun hHeld => ?_)
              clear hK K
              try simp only [Act.put, List.setIfInBounds_toArray, List.set_cons_zero, List.set_cons_succ]
              refine wpAnyH_done (by kernel_rfl) ?_ _
              have hpF : PrevAt (w7.setCell ⟨bp, u, none⟩ (.slice A7 (nu + 1) c7)) (w.heap.size + 2) wc.heap.size bp n2 (fun u => castL (pvUp g.2.1 v (i + 1) u)) := PrevAt.turn hpr hol hdis hun (by omega) (by rw [HGU.out]; exact hch7) ho7 (by rw [HGU.out]; exact hat8) HFT.out
              have hkF := (hk.chg hch7 (fun b hb e => by have h4 : some bk = some b := hb; injection h4 with h4; have := hown7 _ e; omega)).chg chS (fun b hb e => by have h4 : some bk = some b := hb; injection h4 with h4; have h5 : b = bp := e; omega)
              have hCF := (hC.push hch7 (fun x hx => .inr (hown7 x hx))).push chS (fun x hx => .inl (.inl hx))
              have HFin := Lib.hid (And.intro hpF (And.intro hkF hCF))
              clear hpF hkF hCF
              go_wp2
              exact ⟨⟨i + 1, by omega, by go_num, HFin⟩, by simp [intOf]; omega⟩
          · obtain rfl : i = nn := by omega
            have hpN : PrevAt wr (w.heap.size + 2) wc.heap.size bp n2 (fun u => castL (pvUp g.2.1 (v + 1) 0 u)) := PrevAt.congr ⟨cs, hpr, hol, hdis⟩ (fun u _ => by rw [← pvUp_next, HNN.out])
            clear hpr hol hdis
            go_wp2
            exact ⟨⟨v + 1, by omega, by go_num, hpN, hk, hC⟩, by simp [intOf]; omega⟩
      · obtain rfl : v = n2 := by omega
        have brr : Box wr (w.heap.size + 1) 76 #[.slice none 0 0, .slice none 0 0, .slice none 0 0, .slice none 0 0, .slice none 0 0] := (hC.block _ br_.lt (fun e => by omega)).trans br_
        have e0 := bbr.e0; have e1 := bbr.e1; have e2 := bbr.e2; have e3 := bbr.e3; have e4 := bbr.e4
        have z0 := brr.e0; have z1 := brr.e1; have z2 := brr.e2; have z3 := brr.e3; have z4 := brr.e4
        have y0 := brr.hot 0; have y1 := brr.hot 1; have y2 := brr.hot 2; have y3 := brr.hot 3; have y4 := brr.hot 4
        have hF := brr.set5 (.slice A0 v c0) (.slice A2 v c2) (.slice A1 v c1) (.slice (some ⟨bp, 0, none⟩) v v) (.slice (some ⟨bk, 0, none⟩) v v)
        have hch := Chg.set5 wr (w.heap.size + 1) (.slice A0 v c0) (.slice A2 v c2) (.slice A1 v c1) (.slice (some ⟨bp, 0, none⟩) v v) (.slice (some ⟨bk, 0, none⟩) v v)
        have R0 := hF.e0; have R1 := hF.e1; have R2 := hF.e2; have R3 := hF.e3; have R4 := hF.e4
        have hwF := hwr.trans (hch.below hwr.size (fun x hx => by have h3 : x = w.heap.size + 1 := hx; omega))
        have hpF := hp.chg hch (fun e => by have h3 : bp = w.heap.size + 1 := e; omega) (fun b hb => by have h3 : b = w.heap.size + 1 := hb; omega)
        have hkF := hk.chg hch (fun b hb e => by have h4 : some bk = some b := hb; injection h4 with h4; have h3 : b = w.heap.size + 1 := e; omega)
        have HK := Lib.hid (show fillUp (fun _ => -1) v (fun _ => 0) v = negL v from fillUp_full _ _ _)
        rw [HK.out] at hkF
        have hpG := hpF.congr (g := gl (prevR g.2.1 v)) (fun u hu => (prevR_at hu).symm)
        have HPL := Lib.hid (show (prevR g.2.1 v).length = v by simp [prevR])
        clear hp hk hpF
        go_wp2
        exact bodyPost_ret (v := .agg #[.slice A0 v c0, .slice A2 v c2, .slice A1 v c1, .slice (some ⟨bp, 0, none⟩) v v, .slice (some ⟨bk, 0, none⟩) v v]) (by simp [results, Try.results59, go_sem, R0, R1, R2, R3, R4]) rfl ⟨.slice (some ⟨bp, 0, none⟩) v v, bk, by rw [HL.out], by rw [HL.out]; exact hkF.more (by omega), by omega, fun w'' h => by rw [HL.out]; exact (hpG.chg h (fun e => by have h3 : bp = bk := e; omega) (fun b hb => by have h3 : b = bk := hb; omega)).reads HPL.out, hwF.mono hB⟩
end Go.Proofs.Ytblmcmccdeelgaa
namespace Go.Proofs.Ytblmcmccdeelgaa

/-! ### attractors are there -/
/-! ### who wins a vertex of a game -/
def pgD (g : ParD) : PG := ⟨gi g.1, fun v u => hasL (gl g.2.1 v) (u : Int) = true, gi g.2.2⟩
def InN (N : Nat) (v : Nat) : Prop := v < N
def wonBy (g : ParD) (i : Int) (v : Nat) : Prop := ∃ X s, WinsIn (pgD g) (InN g.1.length) i X s ∧ X v
noncomputable def wonV (g : ParD) (v : Nat) : Int := if clB (wonBy g 0 v) = true then 0 else 1
noncomputable def wonL (g : ParD) : List Int := fill (wonV g) g.1.length
theorem wonL_len (g : ParD) : (wonL g).length = g.1.length := fill_len _ _
theorem wonL_at {g : ParD} {v : Nat} (h : v < g.1.length) : gi (wonL g) v = wonV g v := fill_at h
theorem gi_neg {N v : Nat} (h : v < N) : gi (negL N) v = -1 := fill_at h
theorem row_none {n : List (List Int)} {v : Nat} (h : n.length ≤ v) : gl n v = [] := by simp [gl, List.getElem?_eq_none h]
theorem pg_neg {g : ParD} (hf : finePar g) : pgOf (sOf g (negL g.1.length)) = pgD g := by
  have key : ∀ v u : Nat, ed (sOf g (negL g.1.length)) v u = hasL (gl g.2.1 v) (u : Int) := by
    intro v u
    by_cases hv : v < g.1.length
    · unfold ed pk
      show (hasL (gl g.2.1 v) (u : Int) && (decide (gi (negL g.1.length) v < 0) || (gi (negL g.1.length) v == (u : Int)))) = _
      rw [gi_neg hv]; simp
    · have h1 := hf.1.2.2.1
      unfold ed
      show (hasL (gl g.2.1 v) (u : Int) && pk (sOf g (negL g.1.length)) v u) = _
      rw [row_none (by omega)]; simp [hasL]
  unfold pgOf pgD
  simp only [key]
  rfl
theorem ins_all {N v : Nat} : InS N (List.replicate N true) v ↔ InN N v := ⟨fun h => h.1, fun h => ⟨h, gb_true N v h⟩⟩
theorem tot_fine {g : ParD} (hf : finePar g) : totS (sOf g (negL g.1.length)) g.1.length (List.replicate g.1.length true) := fun v hv => by
  obtain ⟨_, hl, hs⟩ := hf.1.2.2.2 v hv.1
  have hm : gi (gl g.2.1 v) 0 ∈ gl g.2.1 v := gi_mem (by omega)
  have hb := set_mem hs hm
  obtain ⟨u, hu⟩ := Int.eq_ofNat_of_zero_le hb.1
  refine ⟨u, ?_, ins_all.2 (by show u < _; omega)⟩
  have : (pgOf (sOf g (negL g.1.length))).E v u = (pgD g).E v u := by rw [pg_neg hf]
  exact this.mpr (decide_eq_true (by rw [← hu]; exact hm))
/-- what l7Win finds of all vertices -/
theorem win_won {g : ParD} (hf : finePar g) {out : List Bool} (h : WinRes (sOf g (negL g.1.length)) g.1.length (List.replicate g.1.length true) out) {v : Nat} (hv : v < g.1.length) : wonV g v = if gb out v = true then 0 else 1 := by
  obtain ⟨h1, h2, h3⟩ := h
  obtain ⟨⟨s0, w0⟩, ⟨s1, w1⟩⟩ := h3 (tot_fine hf)
  have eI : InS g.1.length (List.replicate g.1.length true) = InN g.1.length := funext fun v => propext ins_all
  rw [pg_neg hf, eI] at w0 w1
  have ho : ∀ v, InN g.1.length v → (pgD g).own v = 0 ∨ (pgD g).own v = 1 := fun v hv => by have := (hf.1.2.2.2 v hv).1; show gi g.1 v = 0 ∨ gi g.1 v = 1; omega
  have hp : ∀ v, InN g.1.length v → 0 ≤ (pgD g).pr v ∧ (pgD g).pr v ≤ (40 : Nat) := fun v hv => hf.2.2 v (by have := hf.2.1; have h9 : v < g.1.length := hv; omega)
  unfold wonV
  cases e : gb out v with
  | true => rw [if_pos rfl, if_pos (clB_yes ⟨_, s0, w0, e⟩)]
  | false =>
    have hn : ¬ clB (wonBy g 0 v) = true := by
      rw [clB_iff]
      rintro ⟨X, s, hX, hXv⟩
      exact wins_apart hX w1 ho hp hXv ⟨hv, e⟩
    rw [if_neg hn]; rfl
theorem won_is {g : ParD} (hf : finePar g) {v : Nat} {i : Int} (hi : i = 0 ∨ i = 1) (_hv : v < g.1.length) (h : wonBy g i v) : wonV g v = i := by
  have ho : ∀ v, InN g.1.length v → (pgD g).own v = 0 ∨ (pgD g).own v = 1 := fun v hv => by have := (hf.1.2.2.2 v hv).1; show gi g.1 v = 0 ∨ gi g.1 v = 1; omega
  have hp : ∀ v, InN g.1.length v → 0 ≤ (pgD g).pr v ∧ (pgD g).pr v ≤ (40 : Nat) := fun v hv => hf.2.2 v (by have := hf.2.1; have h9 : v < g.1.length := hv; omega)
  rcases hi with rfl | rfl
  · unfold wonV; rw [if_pos (clB_yes h)]
  · unfold wonV
    rw [if_neg]
    rw [clB_iff]
    rintro ⟨X, s, hX, hXv⟩
    obtain ⟨Y, t, hY, hYv⟩ := h
    exact wins_apart hX hY ho hp hXv hYv

/-! ### a game within a game -/
end Go.Proofs.Ytblmcmccdeelgaa
namespace Go.Proofs.Ytblmcmccdeelgaa
open Go.RowKit

theorem l1FlagT (w : World) : Calls Try.prog 75 #[.bool true] w fun e w' => e = .returned (.int .i64 1) ∧ Qt w w' := by
  go_enter Try.func75, Try.ntmps75
  go_wp2
  go_ret
  exact ⟨rfl, Qt.refl _⟩
theorem l1FlagF (w : World) : Calls Try.prog 75 #[.bool false] w fun e w' => e = .returned (.int .i64 0) ∧ Qt w w' := by
  go_enter Try.func75, Try.ntmps75
  go_wp2
  go_ret
  exact ⟨rfl, Qt.refl _⟩
set_option maxRecDepth 100000 in
theorem l7All (N : Nat) (w : World) (B : Nat) (hB : B ≤ w.heap.size) (hN : N ≤ 256) :
    Calls Try.prog 74 #[.int .i64 (N : Int)] w fun e w' => ∃ v, e = .returned v ∧ OB 4 w' B v (List.replicate N true) ∧ Below B w w' := by
  go_enter Try.func74, Try.ntmps74
  go_wp2_with (refine wpList_makeB rfl (.tmp 5) rfl _ N rfl (by omega) ?_; intro w1 ho1 hb1)
  go_loopw [4] (fun i wr => ∃ k : Nat, k ≤ N ∧ i = .int .i64 k ∧ OB 4 wr w.heap.size (.slice (some ⟨w.heap.size, 0, none⟩) N N) (fillB (fun _ => true) N k) ∧ Below w.heap.size w wr) (fun i _ => N - (intOf i).toNat)
  case atStart => exact ⟨0, Nat.zero_le _, rfl, by rw [fillB_zero]; exact ho1, hb1⟩
  case round =>
    clear ho1 hb1
    obtain ⟨k, hk, rfl, ho, hbr⟩ := hrel
    by_cases hlt : k < N
    · have hki : (k : Int) < (N : Int) := by omega
      have hk0 : (0 : Int) ≤ (k : Int) := by omega
      have hcm := ho.at_ (i := k) (by rw [fillB_len]; exact hlt)
      have hfz := ho.hot (i := k) (by rw [fillB_len])
      have HX := Lib.hid (fillB_put (f := fun _ => true) hlt)
      have HO := Lib.hid ho
      clear ho
      go_wp2
      go_roundw
      case rel => exact ⟨k + 1, by omega, by go_num, by rw [← HX.out]; exact HO.out.set_ (by rw [fillB_len]) true, below_set (by show w.heap.size ≤ w.heap.size; omega) hbr⟩
      case measure => simp [intOf]; omega
    · obtain rfl : k = N := by omega
      go_wp2
      go_ret
      exact ⟨_, rfl, by rw [← fillB_true]; exact ho.more hB, hbr.mono hB⟩

theorem R7.of {w : World} {s0 s1 s2 s3 s4 : Value} {g : ParD} {c : List Int} (h : RPv w s0 s1 s2 g) (h3 : RIIv w s3 (prevR g.2.1 g.1.length)) (h4 : RIv w s4 c) : R7 w s0 s2 s1 s3 s4 (sOf g c) := ⟨h.1.1, h.2, h.1.2, h3, h4⟩

set_option maxRecDepth 100000 in
set_option maxHeartbeats 1600000 in
theorem l7Won (s0 s1 s2 : Value) (g : ParD) (w : World) (B : Nat) (hB : B ≤ w.heap.size) (hag : RPv w s0 s1 s2 g) (hf : finePar g) :
    Calls Try.prog 58 #[.agg #[s0, s1, s2]] w fun e w' => ∃ v, e = .returned v ∧ OI 2 w' B v (wonL g) ∧ Below B w w' := by
  obtain ⟨A0, n0, c0, A1, n1, c1, A2, n2, c2, rfl, rfl, rfl⟩ := hag.form
  have b1 := hag.rp.cap; have b2 := hag.rp.top
  have HN := Lib.hid (show g.1.length = n2 by rw [← hag.rp.len]; exact hf.2.1.symm)
  have hN1 := hf.1.1; have hN2 := hf.1.2.1
  rw [HN.out] at hN1 hN2
  have HF := Lib.hid hf
  have HF7 := Lib.hid (show fine7 (sOf g (negL n2)) n2 by have := fine_sOf hf (c := negL n2) (by rw [HN.out]; exact fill_len _ _); rw [HN.out] at this; exact this)
  have bxC := Box.new w 34 #[.slice A0 n0 c0, .slice A1 n1 c1, .slice A2 n2 c2]
  have hwC : Below w.heap.size w (w.alloc (.cells #[.slice A0 n0 c0, .slice A1 n1 c1, .slice A2 n2 c2] 34)) := below_alloc (Nat.le_refl _) (Below.refl _ _)
  clear hf
  go_enter Try.func58, Try.ntmps58
  go_wp2_with fail
  replace hwC := Below.drew hwC
  replace bxC : Box (w.alloc (.cells #[.slice A0 n0 c0, .slice A1 n1 c1, .slice A2 n2 c2] 34)).drew w.heap.size 34 #[.slice A0 n0 c0, .slice A1 n1 c1, .slice A2 n2 c2] := bxC
  have q0 := bxC.c0; have q1 := bxC.c1; have q2 := bxC.c2
  refine wp_region_held_drew (S := (fun w' => w'.cell? ⟨w.heap.size, 0, none⟩ = some (.slice A0 n0 c0) ∧ w'.cell? ⟨w.heap.size, 1, none⟩ = some (.slice A1 n1 c1) ∧ w'.cell? ⟨w.heap.size, 2, none⟩ = some (.slice A2 n2 c2))) (by kernel_rfl) (⟨q0, q1, q2⟩) (fun hHeld => ?_)
  generalize (w.alloc (.cells #[.slice A0 n0 c0, .slice A1 n1 c1, .slice A2 n2 c2] 34)).drew = wD at *
  refine takeH0 (v := ?_) (by kernel_rfl) (by kernel_rfl) (by kernel_rfl) (fun _ _ _ h => h) hHeld (by rfl) ?_ ?_
  rotate_left; · (intro w hSw; (try dsimp only at hSw); go_simp; try with_reducible rfl)
  try simp only [Act.put, List.setIfInBounds_toArray, List.set_cons_zero, List.set_cons_succ]
  refine takeH2 (v := ?_) (by kernel_rfl) (by kernel_rfl) (by kernel_rfl) (fun _ _ _ h => h) hHeld (by rfl) ?_ ?_
  rotate_left; · (intro w hSw; (try dsimp only at hSw); go_simp; try with_reducible rfl)
  try simp only [Act.put, List.setIfInBounds_toArray, List.set_cons_zero, List.set_cons_succ]
  refine takeH3 (v := ?_) (by kernel_rfl) (by kernel_rfl) (by kernel_rfl) (fun _ _ _ h => h) hHeld (by rfl) ?_ ?_
  rotate_left; · (intro w hSw; (try dsimp only at hSw); go_simp; try with_reducible rfl)
  try simp only [Act.put, List.setIfInBounds_toArray, List.set_cons_zero, List.set_cons_succ]
  refine takeH4 (v := ?_) (by kernel_rfl) (by kernel_rfl) (by kernel_rfl) (fun _ _ _ h => h) hHeld (by rfl) ?_ ?_
  rotate_left; · (intro w hSw; (try dsimp only at hSw); go_simp; try with_reducible rfl)
  try simp only [Act.put, List.setIfInBounds_toArray, List.set_cons_zero, List.set_cons_succ]
  refine callH1 (by kernel_rfl) (fun K hK => ?_)
  go_simp
  go_at_call 59
  refine (l7Of _ _ _ g _ _ (Nat.le_refl _) (hag.keep (keeps_below hwC)) HF.out).mono ?_; rintro e w1 ⟨s3, bk, rfl, hpk, hbk, hKp, hb1⟩
  have hw1 := below_then hb1 hwC.size hwC
  have bx1 := bxC.on hb1
  rw [HN.out] at hpk hKp ⊢
  clear q0 q1 q2 bxC
  have q0 := bx1.c0; have q1 := bx1.c1; have q2 := bx1.c2
  go_wp2_with fail
  refine hK.out _ _ (⟨q0, q1, q2⟩) (fun hHeld => ?_)
  clear hK K
  try simp only [Act.put, List.setIfInBounds_toArray, List.set_cons_zero, List.set_cons_succ]
  refine callH5 (by kernel_rfl) (fun K hK => ?_)
  go_simp
  go_at_call 74
  refine (l7All n2 _ _ (Nat.le_refl _) hN2).mono ?_; rintro e w2 ⟨vA, rfl, hoA, hb2⟩
  have hw2 := below_then hb2 hw1.size hw1
  have bx2 := bx1.on hb2
  obtain ⟨AA, cA, hve⟩ := hoA.form
  rw [List.length_replicate] at hve
  subst hve
  have hpk2 := hpk.below hb2
  have hr3 := hKp w2 ⟨hb2.os, hb2.tape, hb2.output, hb2.size, fun k hk _ => hb2.block k hk⟩
  clear q0 q1 q2 bx1 hpk hKp
  have q0 := bx2.c0; have q1 := bx2.c1; have q2 := bx2.c2
  go_wp2_with fail
  refine hK.out _ _ (⟨q0, q1, q2⟩) (fun hHeld => ?_)
  clear hK K
  try simp only [Act.put, List.setIfInBounds_toArray, List.set_cons_zero, List.set_cons_succ]
  refine callH6 (by kernel_rfl) (fun K hK => ?_)
  go_simp
  go_at_call 73
  refine (l7Win _ _ _ _ _ _ (sOf g (negL n2)) n2 _ _ (List.replicate n2 true) _ _ (Nat.le_refl _) (R7.of (hag.keep (keeps_below hw2)) (by rw [HN.out]; exact hr3) hpk2.rv) hoA.reads HF7.out rfl).mono ?_; rintro e w3 ⟨vW, out, rfl, hoW, hW, hb3⟩
  have hw3 := below_then hb3 hw2.size hw2
  have bx3 := bx2.on hb3
  obtain ⟨AW, cW, hve⟩ := hoW.form
  rw [hW.1] at hve
  subst hve
  have HWN := Lib.hid hW
  clear q0 q1 q2 bx2 hW hpk2 hoA hr3
  have q0 := bx3.c0; have q1 := bx3.c1; have q2 := bx3.c2
  go_wp2_with fail
  refine hK.out _ _ (⟨q0, q1, q2⟩) (fun hHeld => ?_)
  clear hK K
  try simp only [Act.put, List.setIfInBounds_toArray, List.set_cons_zero, List.set_cons_succ]
  refine takeH7 (v := ?_) (by kernel_rfl) (by kernel_rfl) (by kernel_rfl) (fun _ _ _ h => h) hHeld (by rfl) ?_ ?_
  rotate_left; · (intro w hSw; (try dsimp only at hSw); go_simp; try with_reducible rfl)
  try simp only [Act.put, List.setIfInBounds_toArray, List.set_cons_zero, List.set_cons_succ]
  refine wpAnyH_done (by kernel_rfl) ?_ _
  have HV := Lib.hid (show ∀ v, v < n2 → wonV g v = if gb out v = true then 0 else 1 from fun v hv => win_won HF.out (by rw [HN.out]; exact HWN.out) (by rw [HN.out]; exact hv))
  have hrW := hoW.reads
  have c1_ := hrW.cap; have c2_ := hrW.top
  have hem := OI.empty (E := 2) (w := w3) (B := w3.heap.size) (Nat.le_refl _)
  have hbE : Below w3.heap.size w3 (w3.alloc (.cells #[] 2)) := below_alloc (Nat.le_refl _) (Below.refl _ _)
  have hs3 := hw3.size
  clear q0 q1 q2 bx3
  go_wp2
  go_loopw [4, 5] (fun v i wr => ∃ k : Nat, k ≤ n2 ∧ i = .int .i64 k ∧ OI 2 wr w3.heap.size v (fill (wonV g) k) ∧ Below w3.heap.size w3 wr) (fun _ i _ => n2 - (intOf i).toNat)
  case atStart => exact ⟨0, Nat.zero_le _, rfl, hem, hbE⟩
  case round =>
    clear hem hbE
    obtain ⟨k, hk, rfl, ho, hbr⟩ := hrel
    have hfl := fill_len (wonV g) k
    have hfl2 : (fill (wonV g) k).length ≤ 4194304 := by omega
    clear hfl
    by_cases hlt : k < n2
    · obtain ⟨bw, ow, rfl, hcw⟩ := (hrW.keep (keeps_below hbr)).at_ hlt
      have hki : (k : Int) < (n2 : Int) := by omega
      have hk0 : (0 : Int) ≤ (k : Int) := by omega
      have hsz := hbr.size
      have HX := Lib.hid (fill_succ (wonV g) k)
      cases h1 : gb out k with
      | true =>
        rw [h1] at hcw
        have HY := Lib.hid (show wonV g k = 0 by rw [HV.out k hlt, h1]; rfl)
        clear h1
        go_wp2_with fail
        refine (l1FlagT _).mono ?_; rintro e w4 ⟨rfl, q, rfl⟩
        go_wp2_with (at_builtin; refine wpList_pushI rfl (.tmp 20) (.tmp 27) rfl _ w3.heap.size u4 (fill (wonV g) k) (by rfl) (ho.drewN _) _ (by rfl) hfl2 hsz ?_; intro v3 w5 ho3 hb5 hc5 hat5)
        go_wp2
        go_roundw
        case rel => exact ⟨k + 1, by omega, by go_num, by rw [HX.out, HY.out]; exact ho3, (below_drewN hbr _).trans hb5⟩
        case measure => simp [intOf]; omega
      | false =>
        rw [h1] at hcw
        have HY := Lib.hid (show wonV g k = 1 by rw [HV.out k hlt, h1]; rfl)
        clear h1
        go_wp2_with fail
        refine (l1FlagF _).mono ?_; rintro e w4 ⟨rfl, q, rfl⟩
        go_wp2_with (at_builtin; refine wpList_pushI rfl (.tmp 20) (.tmp 27) rfl _ w3.heap.size u4 (fill (wonV g) k) (by rfl) (ho.drewN _) _ (by rfl) hfl2 hsz ?_; intro v3 w5 ho3 hb5 hc5 hat5)
        go_wp2
        go_roundw
        case rel => exact ⟨k + 1, by omega, by go_num, by rw [HX.out, HY.out]; exact ho3, (below_drewN hbr _).trans hb5⟩
        case measure => simp [intOf]; omega
    · obtain rfl : k = n2 := by omega
      have HE := Lib.hid (show fill (wonV g) k = wonL g by unfold wonL; rw [HN.out])
      go_wp2
      go_ret
      exact ⟨_, rfl, by rw [← HE.out]; exact ho.more (by omega), (below_then hbr hw3.size hw3).mono hB⟩

set_option maxRecDepth 100000 in
theorem l7None (N : Nat) (w : World) (B : Nat) (hB : B ≤ w.heap.size) (hN : N ≤ 256) :
    Calls Try.prog 36 #[.int .i64 (N : Int)] w fun e w' => ∃ v, e = .returned v ∧ OI 2 w' B v (negL N) ∧ Below B w w' := by
  go_enter Try.func36, Try.ntmps36
  go_wp2
  go_loopw [3, 4] (fun v i wr => ∃ k : Nat, k ≤ N ∧ i = .int .i64 k ∧ OI 2 wr w.heap.size v (negL k) ∧ Below w.heap.size w wr) (fun _ i _ => N - (intOf i).toNat)
  case atStart => exact ⟨0, Nat.zero_le _, rfl, OI.empty (Nat.le_refl _), by repeat (first | with_reducible assumption | with_reducible exact Below.refl _ _ | with_reducible refine below_drewN ?_ _ | with_reducible refine Below.drew ?_ | with_reducible refine below_alloc (Nat.le_refl _) ?_)⟩
  case round =>
    obtain ⟨k, hk, rfl, ho, hbr⟩ := hrel
    have hup : (negL k).length ≤ k := Nat.le_of_eq (fill_len _ _)
    have hsz := hbr.size
    by_cases hlt : k < N
    · have HX := Lib.hid (show negL (k + 1) = negL k ++ [-1] from fill_succ _ _)
      have hki : (k : Int) < (N : Int) := by omega
      go_wp2_with (at_builtin; refine wpList_pushI rfl (.tmp 11) (.tmp 12) rfl _ w.heap.size u3 (negL k) (by rfl) ho _ (by rfl) (by omega) hsz ?_; intro v2 w2 ho2 hb2 hc2 hat2)
      go_wp2
      go_roundw
      case rel => exact ⟨k + 1, by omega, by go_num, by rw [HX.out]; exact ho2, hbr.trans hb2⟩
      case measure => simp [intOf]; omega
    · obtain rfl : k = N := by omega
      go_wp2
      go_ret
      exact ⟨_, rfl, ho.more hB, hbr.mono hB⟩

set_option maxRecDepth 100000 in
theorem l7Region (A : Option Addr) (N c : Nat) (won : List Int) (who : Int) (w : World) (B : Nat) (hB : B ≤ w.heap.size) (ha : RI w A N c won) (hN : N ≤ 256) :
    Calls Try.prog 60 #[.slice A N c, .int .i64 who] w fun e w' => ∃ v, e = .returned v ∧ OB 4 w' B v (fillB (fun v => gi won v == who) N N) ∧ Below B w w' := by
  have b1 := ha.cap; have b2 := ha.top
  go_enter Try.func60, Try.ntmps60
  go_wp2_with (refine wpList_makeB rfl (.tmp 8) rfl _ N rfl (by omega) ?_; intro w1 ho1 hb1)
  go_loopw [6] (fun i wr => ∃ k : Nat, k ≤ N ∧ i = .int .i64 k ∧ OB 4 wr w.heap.size (.slice (some ⟨w.heap.size, 0, none⟩) N N) (fillB (fun v => gi won v == who) N k) ∧ Below w.heap.size w wr) (fun i _ => N - (intOf i).toNat)
  case atStart => exact ⟨0, Nat.zero_le _, rfl, by rw [fillB_zero]; exact ho1, hb1⟩
  case round =>
    clear ho1 hb1
    obtain ⟨k, hk, rfl, ho, hbr⟩ := hrel
    by_cases hlt : k < N
    · obtain ⟨b, off, rfl, hca⟩ := (ha.keep (keeps_below hbr)).at_ hlt
      have hki : (k : Int) < (N : Int) := by omega
      have hk0 : (0 : Int) ≤ (k : Int) := by omega
      have hcm := ho.at_ (i := k) (by rw [fillB_len]; exact hlt)
      have hfz := ho.hot (i := k) (by rw [fillB_len])
      have HX := Lib.hid (fillB_put (f := fun v => gi won v == who) hlt)
      have HO := Lib.hid ho
      clear ho
      go_wp2
      go_roundw
      case rel => exact ⟨k + 1, by omega, by go_num, by rw [← HX.out]; exact HO.out.set_ (by rw [fillB_len]) _, below_set (by show w.heap.size ≤ w.heap.size; omega) hbr⟩
      case measure => simp [intOf]; omega
    · obtain rfl : k = N := by omega
      go_wp2
      go_ret
      exact ⟨_, rfl, ho.more hB, hbr.mono hB⟩

/-- a bool, whichever -/
def SomeB (w : World) (B : Nat) (e : Ending) (w' : World) : Prop := ∃ b : Bool, e = .returned (.bool b) ∧ Below B w w'
set_option maxRecDepth 100000 in
set_option maxHeartbeats 800000 in
theorem l7Holds (s0 s1 s2 s3 s4 : Value) (g : S7) (N : Nat) (I : Option Addr) (ci : Nat) (ins : List Bool) (who : Int) (w : World) (B : Nat) (hB : B ≤ w.heap.size) (ha : R7 w s0 s1 s2 s3 s4 g) (hi : RB w I N ci ins) (hf : fine7 g N) :
    Calls Try.prog 76 #[.agg #[s0, s1, s2, s3, s4], .slice I N ci, .int .i64 who] w (SomeB w B) := by
  obtain ⟨A0, n0, c0, A1, n1, c1, A2, n2, c2, A3, n3, c3, A4, n4, c4, rfl, rfl, rfl, rfl, rfl, r0, r1, r2, r3, r4⟩ := ha.form
  have bx := Box.new w 76 #[.slice A0 n0 c0, .slice A1 n1 c1, .slice A2 n2 c2, .slice A3 n3 c3, .slice A4 n4 c4]
  have hba : Below w.heap.size w (w.alloc (.cells #[.slice A0 n0 c0, .slice A1 n1 c1, .slice A2 n2 c2, .slice A3 n3 c3, .slice A4 n4 c4] 76)) := below_alloc (Nat.le_refl _) (Below.refl _ _)
  have b1 := hi.cap; have b2 := hi.top
  have q0 := bx.e0; have q1 := bx.e1; have q2 := bx.e2; have q3 := bx.e3; have q4 := bx.e4
  go_enter Try.func76, Try.ntmps76
  go_wp2_with fail
  refine (l7Win _ _ _ _ _ _ g N _ _ ins _ _ (Nat.le_refl _) (ha.keep (keeps_below hba)) (hi.keep (keeps_below hba)) hf rfl).mono ?_; rintro e w1 ⟨vW, out, rfl, hoW, hW, hb1⟩
  have hw1 := below_then hb1 hba.size hba
  obtain ⟨AW, cW, hve⟩ := hoW.form
  rw [hW.1] at hve
  subst hve
  have hrW := hoW.reads
  have b3 := hrW.cap; have b4 := hrW.top
  have hi1 := hi.keep (keeps_below hw1)
  clear q0 q1 q2 q3 q4 bx hW
  go_wp2
  go_loop [8] (fun i => ∃ k : Nat, k ≤ N ∧ i = .int .i64 k) (fun i => N - (intOf i).toNat)
  case atStart => exact ⟨0, Nat.zero_le _, rfl⟩
  case round =>
    obtain ⟨k, hk, rfl⟩ := hrel
    by_cases hlt : k < N
    · obtain ⟨bi, oi, rfl, hci⟩ := hi1.at_ hlt
      obtain ⟨bw, ow, rfl, hcw⟩ := hrW.at_ hlt
      have hki : (k : Int) < (N : Int) := by omega
      have hk0 : (0 : Int) ≤ (k : Int) := by omega
      cases h1 : gb ins k with
      | false =>
        rw [h1] at hci
        clear h1
        go_wp2
        go_round
        case rel => exact ⟨k + 1, by omega, by go_num⟩
        case measure => simp [intOf]; omega
      | true =>
        rw [h1] at hci
        clear h1
        cases h2 : gb out k with
        | true =>
          rw [h2] at hcw
          clear h2
          cases h4 : (who == (0 : Int)) with
          | true =>
            go_wp2
            go_round
            case rel => exact ⟨k + 1, by omega, by go_num⟩
            case measure => simp [intOf]; omega
          | false =>
            go_wp2
            go_ret
            exact ⟨_, rfl, hw1.mono hB⟩
        | false =>
          rw [h2] at hcw
          clear h2
          cases h4 : (who == (0 : Int)) with
          | true =>
            go_wp2
            go_ret
            exact ⟨_, rfl, hw1.mono hB⟩
          | false =>
            go_wp2
            go_round
            case rel => exact ⟨k + 1, by omega, by go_num⟩
            case measure => simp [intOf]; omega
    · go_wp2
      go_ret
      exact ⟨_, rfl, hw1.mono hB⟩


def withC (g : S7) (c : List Int) : S7 := ⟨g.o, g.p, g.n, g.r, c⟩
theorem fine_withC {g : S7} {N : Nat} (h : fine7 g N) {c : List Int} (hc : c.length = N) : fine7 (withC g c) N := ⟨h.lo, h.lp, h.ln, h.lr, hc, h.n1, h.n2, h.own, h.pr, h.row, h.prev⟩
/-- all but the picks is read as long as only the picks' block turns -/
def Rest7 (w : World) (bk : Nat) (s0 s1 s2 s3 : Value) (g : S7) : Prop := ∀ w', Chg (fun b => b = bk) w w' → RIv w' s0 g.o ∧ RIv w' s1 g.p ∧ RIIv w' s2 g.n ∧ RIIv w' s3 g.r
theorem Rest7.chg {w w' : World} {bk : Nat} {s0 s1 s2 s3 : Value} {g : S7} (h : Rest7 w bk s0 s1 s2 s3 g) (hc : Chg (fun b => b = bk) w w') : Rest7 w' bk s0 s1 s2 s3 g := fun w'' h2 => h w'' (hc.trans h2 (fun _ h => h) (fun _ h => h))
theorem chgB {w w' : World} {S : Nat → Prop} (h : Below w.heap.size w w') : Chg S w w' := ⟨h.os, h.tape, h.output, h.size, fun k hk _ => h.block k hk⟩
/-- what l7Pick leaves: some successor or -1; only the picks have turned -/
def PickTo (w : World) (lo bk N ck : Nat) (e : Ending) (w' : World) : Prop := ∃ (x : Int) (c : List Int), e = .returned (.int .i64 x) ∧ (-1 ≤ x ∧ x < N) ∧ OI 2 w' lo (.slice (some ⟨bk, 0, none⟩) N ck) c ∧ (c.length = N ∧ ∀ v, v < N → -1 ≤ gi c v ∧ gi c v < N) ∧ Chg (fun b => b = bk) w w'

end Go.Proofs.Ytblmcmccdeelgaa
namespace Go.Proofs.Ytblmcmccdeelgaa
open Go.RowKit

end Go.Proofs.Ytblmcmccdeelgaa
namespace Go.Proofs.Ytblmcmccdeelgaa
open Go.RowKit

def prioUp (s : List Int) (a b : Int) (k : Nat) : List Int := (List.range k).map fun (i : Nat) => if hasL s (i : Int) = true then a else b
theorem prioUp_len (s : List Int) (a b : Int) (k : Nat) : (prioUp s a b k).length = k := by simp [prioUp]
theorem prioUp_yes {s : List Int} {a b : Int} {k : Nat} (h : hasL s (k : Int) = true) : prioUp s a b (k + 1) = prioUp s a b k ++ [a] := by simp [prioUp, List.range_succ, h]
theorem prioUp_no {s : List Int} {a b : Int} {k : Nat} (h : hasL s (k : Int) = false) : prioUp s a b (k + 1) = prioUp s a b k ++ [b] := by simp [prioUp, List.range_succ, h]
def markedG (z : ArD) (s : List Int) (a b : Int) : ParD := (z.1, z.2, prioUp s a b z.1.length)

theorem OB.chg1 {E : TypeId} {S : Nat → Prop} {w w' : World} {lo : Nat} {v : Value} {xs : List Bool} (h : OB E w lo v xs) (hc : Chg S w w') (hS : ∀ b, S b → b < lo) : OB E w' lo v xs :=
  row_chg h hc fun b hb hs => by have := (h.lt b hb).1; have := hS b hs; omega
theorem OPar.joinM {wC wF : World} {lo loC : Nat} {s0 s1 s2 : Value} {z : ArD} {P : List Int} (h : OArn wC lo s0 s1 z) (hb : Below wC.heap.size wC wF) (h2 : OI 2 wF loC s2 P) (hlo : wC.heap.size ≤ loC) (hl : lo ≤ wC.heap.size) : OPar wF lo s0 s1 s2 (z.1, z.2, P) := by
  obtain ⟨cs, ⟨h0, h1, h3⟩, hd⟩ := h
  refine ⟨cs, ⟨h0.below hb, row_below h1 hb, h3.below hb⟩, h2.more (by omega), ?_⟩
  refine Dis.cons (Dis.cons hd.tail fun i hi => ?_) fun i hi => ?_
  · exact (apart_sep (H := wC.heap.size) (fun b hb => (h3.lt i hi b hb).2) (fun b hb => Nat.le_trans hlo (h2.lt b hb).1)).symm
  · cases i with
    | zero => exact apart_sep (H := wC.heap.size) (fun b hb => (h0.lt b hb).2) (fun b hb => Nat.le_trans hlo (h2.lt b hb).1)
    | succ j => exact hd.head (i := j) (by simpa using hi)
theorem Box.e2m {w : World} {b : Nat} {t : TypeId} {x0 x1 x2 : Value} (h : Box w b t #[x0, x1, x2]) : w.cell? ⟨b, 0, none⟩ = some x0 ∧ w.cell? ⟨b, 1, none⟩ = some x1 ∧ w.cell? ⟨b, 2, none⟩ = some x2 := ⟨h.cell 0, h.cell 1, h.cell 2⟩

set_option maxRecDepth 100000 in
set_option maxHeartbeats 1600000 in
theorem markedGame (s0 s1 : Value) (C : Option Addr) (m d : Nat) (z : ArD) (s : List Int) (a b : Int) (w : World) (B : Nat) (hB : B ≤ w.heap.size) (ha : RAv w s0 s1 z.1 z.2) (hs : RI w C m d s) (hf : fineAr z.1 z.2) (hst : setB s z.1.length = true) :
    Calls Try.prog 23 #[.agg #[s0, s1], .slice C m d, .int .i64 a, .int .i64 b] w fun e w' => ∃ t0 t1 t2, e = .returned (.agg #[t0, t1, t2]) ∧ OPar w' B t0 t1 t2 (markedG z s a b) ∧ Below B w w' := by
  obtain ⟨A0, n0, c0, A1, n1, c1, rfl, rfl⟩ := ha.form
  have hr := ha.ri
  have HL := Lib.hid hr.len
  have hn0 : n0 ≤ 1048576 := by have := hf.2.1; rw [HL.out] at this; omega
  have hset : setB s (n0 : Int) = true := by rw [← HL.out]; exact hst
  have HF := Lib.hid hf
  clear hf hst
  have hwL : Below w.heap.size w ((w.alloc (.cells #[.slice A0 n0 c0, .slice A1 n1 c1] 30)).alloc (.cells #[.slice none 0 0, .slice none 0 0, .slice none 0 0] 34)) := below_alloc (Nat.le_refl _) (below_alloc (Nat.le_refl _) (Below.refl _ _))
  have bxL := (Box.new w 30 #[.slice A0 n0 c0, .slice A1 n1 c1]).alloc (.cells #[.slice none 0 0, .slice none 0 0, .slice none 0 0] 34)
  have brL : Box ((w.alloc (.cells #[.slice A0 n0 c0, .slice A1 n1 c1] 30)).alloc (.cells #[.slice none 0 0, .slice none 0 0, .slice none 0 0] 34)) (w.heap.size + 1) 34 #[.slice none 0 0, .slice none 0 0, .slice none 0 0] := Box.new' (by simp)
  have hsL : w.heap.size + 2 = ((w.alloc (.cells #[.slice A0 n0 c0, .slice A1 n1 c1] 30)).alloc (.cells #[.slice none 0 0, .slice none 0 0, .slice none 0 0] 34)).heap.size := by simp
  have q0 := bxL.d0; have q1 := bxL.d1
  go_enter Try.func23, Try.ntmps23
  go_wp2_with fail
  generalize ((w.alloc (.cells #[.slice A0 n0 c0, .slice A1 n1 c1] 30)).alloc (.cells #[.slice none 0 0, .slice none 0 0, .slice none 0 0] 34)) = W at *
  replace hsL : w.heap.size + 2 ≤ W.heap.size := by omega
  go_wp2_with (first
    | (go_at_call 43
       refine (copyArena _ _ z _ _ (Nat.le_refl _) (ha.keep (keeps_below hwL)) HF.out).mono ?_
       rintro e w1 ⟨t0, t1, rfl, ho1, hb1⟩
       obtain ⟨Av0, cv0, Av1, cv1, rfl, rfl⟩ := ho1.form
       have hs1 := hb1.size
       have bx1 := bxL.below hb1 (by omega)
       have br1 := brL.below hb1 (by omega)
       have g0 := (bx1.alloc (.cells #[.slice Av0 z.1.length cv0, .slice Av1 z.2.length cv1, .slice none 0 0] 34)).d0
       have g1 := (bx1.alloc (.cells #[.slice Av0 z.1.length cv0, .slice Av1 z.2.length cv1, .slice none 0 0] 34)).d1
       have hw1 : Below w.heap.size w w1 := hwL.trans (hb1.mono (by omega)))
    | (go_at_call 31
       refine (markOf _ _ _ _ _ _ _ _ _ s _ _ (Nat.le_refl _) (hs.keep (keeps_below (below_alloc (by omega) hw1))) hset hn0).mono ?_
       rintro e w2 ⟨vm, rfl, ho2, hb2⟩
       obtain ⟨Am, cm, rfl⟩ := ho2.form
       rw [mkM_len] at *
       have hs2 := hb2.size))
  have bm1 := Box.below (Box.new w1 34 #[.slice Av0 z.1.length cv0, .slice Av1 z.2.length cv1, .slice none 0 0]) hb2 (by simp)
  have hsm : w1.heap.size + 1 ≤ w2.heap.size := by simpa using hs2
  have hw2 : Below w1.heap.size w1 w2 := (below_alloc (Nat.le_refl _) (Below.refl _ _)).trans (hb2.mono (by simp))
  replace ho2 := ho2.more (lo' := w1.heap.size + 1) (by simp)
  go_loopw [19] (fun i wr => ∃ (k : Nat) (v2 : Value) (P : List Int), k ≤ n0 ∧ i = .int .i64 k ∧ P = prioUp s a b k ∧ OI 2 wr w2.heap.size v2 P ∧ Box wr w1.heap.size 34 #[.slice Av0 z.1.length cv0, .slice Av1 z.2.length cv1, v2] ∧ Chg (fun b => b = w1.heap.size) w2 wr) (fun i _ => n0 - (intOf i).toNat)
  case atStart => exact ⟨0, _, [], Nat.zero_le _, rfl, rfl, OI.nil _ _ _, bm1, Chg.refl _ _⟩
  case round =>
    obtain ⟨k, v2, P, hk, rfl, hPk, hoP, bR, hch⟩ := hrel
    have HPk := Lib.hid hPk
    have hlen : P.length ≤ 4194304 := by rw [hPk, prioUp_len]; omega
    clear hPk
    obtain ⟨Ap, cp, rfl⟩ := hoP.form
    have hsr := hch.size
    by_cases hlt : k < n0
    · obtain ⟨bm, om, rfl, hcm⟩ := (ho2.chg1 hch (fun b hb => by omega)).reads.at_ hlt
      rw [mkM_at hlt] at hcm
      obtain ⟨p0, p1, p2⟩ := bR.e2m
      have hki : (k : Int) < (n0 : Int) := by omega
      cases hv : hasL s (k : Int)
      · rw [hv] at hcm
        have hX := Lib.hid (prioUp_no (a := a) (b := b) hv)
        have hba : Below wr.heap.size wr (wr.alloc (.cells #[.int .i64 b] 2)) := below_alloc (Nat.le_refl _) (Below.refl _ _)
        have hp1 := hoP.below hba
        have hq1 : RI (wr.alloc (.cells #[.int .i64 b] 2)) (some ⟨wr.heap.size, 0, none⟩) 1 1 [b] := RI.one1 ((Box.new wr 2 #[.int .i64 b]).cell 0)
        have bA := bR.alloc (.cells #[.int .i64 b] 2)
        go_wp2_with (refine wpList_appI rfl (.tmp 31) (.tmp 33) rfl _ w2.heap.size (.slice Ap P.length cp) P rfl hp1 (some ⟨wr.heap.size, 0, none⟩) 1 1 [b] rfl hq1 hlen (by omega) (by simp; omega) ?_; intro v3 w3 ho3 hb3 hc3 hat3; obtain ⟨Ap3, cp3, rfl⟩ := ho3.form; have bR3 := bA.below hb3 (by omega); have T2 := bR3.e2m.2.2; have F2 := bR3.hot 2)
        rw [List.length_append, List.length_singleton] at ho3
        have ch := Chg.set (w := w3) ⟨w1.heap.size, 2, none⟩ (.slice Ap3 (P.length + 1) cp3)
        have bF : Box (w3.setCell ⟨w1.heap.size, 2, none⟩ (.slice Ap3 (P.length + 1) cp3)) w1.heap.size 34 #[.slice Av0 z.1.length cv0, .slice Av1 z.2.length cv1, .slice Ap3 (P.length + 1) cp3] := bR3.set_ 2 (.slice Ap3 (P.length + 1) cp3)
        have fin := ho3.chg ch (fun b hb hs => by have := (ho3.lt b hb).1; have : b = w1.heap.size := hs; omega)
        have hbx : Below w2.heap.size wr w3 := (hba.mono hsr).trans hb3
        have hcF := (hch.then_below hbx (Nat.le_refl _)).trans ch (U := fun b => b = w1.heap.size) (fun _ h => h) (fun _ h => h)
        go_roundw
        case rel => exact ⟨k + 1, _, _, by omega, by go_num, by rw [hX.out, ← HPk.out], fin, bF, hcF⟩
        case measure => simp [intOf]; omega
      · rw [hv] at hcm
        have hX := Lib.hid (prioUp_yes (a := a) (b := b) hv)
        have hba : Below wr.heap.size wr (wr.alloc (.cells #[.int .i64 a] 2)) := below_alloc (Nat.le_refl _) (Below.refl _ _)
        have hp1 := hoP.below hba
        have hq1 : RI (wr.alloc (.cells #[.int .i64 a] 2)) (some ⟨wr.heap.size, 0, none⟩) 1 1 [a] := RI.one1 ((Box.new wr 2 #[.int .i64 a]).cell 0)
        have bA := bR.alloc (.cells #[.int .i64 a] 2)
        go_wp2_with (refine wpList_appI rfl (.tmp 25) (.tmp 27) rfl _ w2.heap.size (.slice Ap P.length cp) P rfl hp1 (some ⟨wr.heap.size, 0, none⟩) 1 1 [a] rfl hq1 hlen (by omega) (by simp; omega) ?_; intro v3 w3 ho3 hb3 hc3 hat3; obtain ⟨Ap3, cp3, rfl⟩ := ho3.form; have bR3 := bA.below hb3 (by omega); have T2 := bR3.e2m.2.2; have F2 := bR3.hot 2)
        rw [List.length_append, List.length_singleton] at ho3
        have ch := Chg.set (w := w3) ⟨w1.heap.size, 2, none⟩ (.slice Ap3 (P.length + 1) cp3)
        have bF : Box (w3.setCell ⟨w1.heap.size, 2, none⟩ (.slice Ap3 (P.length + 1) cp3)) w1.heap.size 34 #[.slice Av0 z.1.length cv0, .slice Av1 z.2.length cv1, .slice Ap3 (P.length + 1) cp3] := bR3.set_ 2 (.slice Ap3 (P.length + 1) cp3)
        have fin := ho3.chg ch (fun b hb hs => by have := (ho3.lt b hb).1; have : b = w1.heap.size := hs; omega)
        have hbx : Below w2.heap.size wr w3 := (hba.mono hsr).trans hb3
        have hcF := (hch.then_below hbx (Nat.le_refl _)).trans ch (U := fun b => b = w1.heap.size) (fun _ h => h) (fun _ h => h)
        go_roundw
        case rel => exact ⟨k + 1, _, _, by omega, by go_num, by rw [hX.out, ← HPk.out], fin, bF, hcF⟩
        case measure => simp [intOf]; omega
    · obtain rfl : k = n0 := by omega
      obtain ⟨p0, p1, p2⟩ := bR.e2m
      have hbR : Below w1.heap.size w2 wr := hch.below (by omega) (fun b hb => by omega)
      have brX := br1.below (hw2.trans hbR) (by omega)
      obtain ⟨e0, e1, e2⟩ := brX.e2m
      have f0 := brX.hot 0
      have f1 := brX.hot 1
      have f2 := brX.hot 2
      have ch := Chg.set3 wr (w.heap.size + 1) (.slice Av0 z.1.length cv0) (.slice Av1 z.2.length cv1) (.slice Ap P.length cp)
      have bF := brX.set3 (.slice Av0 z.1.length cv0) (.slice Av1 z.2.length cv1) (.slice Ap P.length cp)
      obtain ⟨R0, R1, R2⟩ := bF.e2m
      have hoE : OI 2 wr w2.heap.size (.slice Ap P.length cp) (prioUp s a b z.1.length) := by rw [HL.out, ← HPk.out]; exact hoP
      have fo := OPar.joinM ho1 (hw2.trans hbR) hoE (by omega) (by omega)
      have fin := fo.chg ch (fun b hb => by omega)
      have hwF := ((hw1.trans (hw2.mono (by omega))).trans (hbR.mono (by omega))).trans (ch.below (by omega) (fun b hb => by omega))
      go_wp2
      exact bodyPost_ret (v := .agg #[.slice Av0 z.1.length cv0, .slice Av1 z.2.length cv1, .slice Ap P.length cp]) (by simp [results, Try.results23, go_sem, R0, R1, R2]) rfl ⟨_, _, _, rfl, fin.more (by omega), hwF.mono hB⟩

noncomputable def oftenG (z : ArD) (s : List Int) (a b : Int) : ParD := if okA z.1 z.2 0 s = true then markedG z s a b else ([], [], [])
end Go.Proofs.Ytblmcmccdeelgaa
namespace Go.Proofs.Ytblmcmccdeelgaa
open Go.RowKit

section
variable {o : List Int} {n : List (List Int)} {who : Int} {goal : List Int}
theorem oft_val (hf : fineAr o n) {v : Nat} (hv : v < o.length) (hz : (v : Int) ∈ oftL o n who goal) (own : gi o v = who) :
    0 ≤ gi (oftPlanL o n who goal) v ∧ oftA (mkM o.length (oftL o n who goal)) (ranksL o n who (oftL o n who goal) goal) v (gi (oftPlanL o n who goal) v).toNat = true := by
  have hsh := oft_shut (who := who) (goal := goal) hf v hv hz
  have hgv := (mkM_iff hv).2 hz
  have hval : gi (oftPlanL o n who goal) v = firstU (oftA (mkM o.length (oftL o n who goal)) (ranksL o n who (oftL o n who goal) goal) v) (gl n v) (gl n v).length := by
    unfold oftPlanL planL
    rw [fill_at hv]
    unfold leastV
    rw [if_pos ⟨hgv, own⟩]
  have hex : ∃ j, j < (gl n v).length ∧ oftA (mkM o.length (oftL o n who goal)) (ranksL o n who (oftL o n who goal) goal) v (gi (gl n v) j).toNat = true := by
    by_cases h0 : gi (ranksL o n who (oftL o n who goal) goal) v = 0
    · obtain ⟨j, hj, hg⟩ := (intoB_mine own).1 hsh
      exact ⟨j, hj, by unfold oftA; rw [hg, h0]; simp⟩
    · have hr := oft_rank hf hv hz
      obtain ⟨k, hk⟩ : ∃ k : Nat, gi (ranksL o n who (oftL o n who goal) goal) v = ((k + 1 : Nat) : Int) := ⟨(gi (ranksL o n who (oftL o n who goal) goal) v).toNat - 1, by omega⟩
      obtain ⟨j, hj, hg, hr⟩ := (rank_step hv hk hf).1 own
      exact ⟨j, hj, by unfold oftA; rw [hg, hr, hk]; simp⟩
  have a := firstU_some (al := oftA (mkM o.length (oftL o n who goal)) (ranksL o n who (oftL o n who goal) goal) v) (row_nonneg hf hv) hex
  have b := firstU_is a
  rw [hval]
  exact ⟨a, b⟩
/-- where an edge leads that the plan leaves -/
theorem oft_law (hf : fineAr o n) {v : Nat} (hv : v < o.length) (hz : (v : Int) ∈ oftL o n who goal) {i : Nat} (hi : i < (gl n v).length) (hc : gi o v = who → gi (oftPlanL o n who goal) v = gi (gl n v) i) :
    gi (gl n v) i ∈ oftL o n who goal ∧ ((v : Int) ∈ goal ∨ gi (ranksL o n who (oftL o n who goal) goal) (gi (gl n v) i).toNat < gi (ranksL o n who (oftL o n who goal) goal) v) := by
  obtain ⟨h1, h2⟩ := row_nat hf hv hi
  have hr := oft_rank hf hv hz
  by_cases own : gi o v = who
  · have b := (oft_val hf hv hz own).2
    rw [hc own] at b
    unfold oftA at b
    rw [Bool.and_eq_true, Bool.or_eq_true] at b
    refine ⟨by have := (mkM_iff h1).1 b.1; rwa [h2] at this, ?_⟩
    rcases b.2 with b2 | b2
    · exact .inl (rank_zero (n := n) (who := who) (inn := oftL o n who goal) hv (by simpa using b2))
    · have : gi (ranksL o n who (oftL o n who goal) goal) (gi (gl n v) i).toNat = gi (ranksL o n who (oftL o n who goal) goal) v - 1 := by simpa using b2
      exact .inr (by omega)
  · have hg := (intoB_yours own).1 (oft_shut (who := who) (goal := goal) hf v hv hz) i hi
    refine ⟨by have := (mkM_iff h1).1 hg; rwa [h2] at this, ?_⟩
    by_cases h0 : gi (ranksL o n who (oftL o n who goal) goal) v = 0
    · exact .inl (rank_zero (n := n) (who := who) (inn := oftL o n who goal) hv h0)
    · obtain ⟨k, hk⟩ : ∃ k : Nat, gi (ranksL o n who (oftL o n who goal) goal) v = ((k + 1 : Nat) : Int) := ⟨(gi (ranksL o n who (oftL o n who goal) goal) v).toNat - 1, by omega⟩
      have := ((rank_step hv hk hf).2 own i hi hg).2
      exact .inr (by omega)
theorem oft_edge (hf : fineAr o n) {v : Nat} (hv : v < o.length) (hz : (v : Int) ∈ oftL o n who goal) (own : gi o v = who) : ∃ i, i < (gl n v).length ∧ gi (gl n v) i = gi (oftPlanL o n who goal) v := by
  have h0 := (oft_val hf hv hz own).1
  have hpf : fineP o n who (oftPlanL o n who goal) := planL_fine hf _ _
  rcases hpf.2 v hv with h | h
  · omega
  · exact has_row h.2
end
theorem ant_const (L : Nat → Nat) (h : ∀ k, L (k + 1) ≤ L k) : ∃ n1, ∀ m, n1 ≤ m → L m = L n1 := by
  have mono : ∀ a d, L (a + d) ≤ L a := fun a d => by
    induction d with
    | zero => exact Nat.le_refl _
    | succ d ih => exact Nat.le_trans (h (a + d)) ih
  have key : ∀ b k, L k ≤ b → ∃ n1, ∀ m, n1 ≤ m → L m = L n1 := by
    intro b
    induction b with
    | zero =>
      intro k hk
      refine ⟨k, fun m hm => ?_⟩
      have := mono k (m - k)
      rw [show k + (m - k) = m by omega] at this
      omega
    | succ b ih =>
      intro k hk
      by_cases e : ∃ m, k ≤ m ∧ L m < L k
      · obtain ⟨m, hm, hl⟩ := e
        exact ih m (by omega)
      · refine ⟨k, fun m hm => ?_⟩
        have h1 := mono k (m - k)
        rw [show k + (m - k) = m by omega] at h1
        have h2 : ¬ L m < L k := fun hl => e ⟨m, hm, hl⟩
        omega
  exact key (L 0) 0 (Nat.le_refl _)
theorem no_desc (R : Nat → Int) (n0 : Nat) (h0 : ∀ m, n0 ≤ m → 0 ≤ R m) (h : ∀ m, n0 ≤ m → R (m + 1) < R m) : False := by
  have key : ∀ (k m : Nat), n0 ≤ m → R m = (k : Int) → False := by
    intro k
    induction k using Nat.strongRecOn with
    | ind k ih =>
      intro m hm e
      obtain ⟨j, hj⟩ := Int.eq_ofNat_of_zero_le (h0 (m + 1) (by omega))
      exact ih j (by have := h m hm; omega) (m + 1) (by omega) hj
  obtain ⟨k, hk⟩ := Int.eq_ofNat_of_zero_le (h0 n0 (Nat.le_refl _))
  exact key k n0 (Nat.le_refl _) hk
section
variable {g : ParD} {i : Int} {T : List Int}
/-- who can meet T again and again wins where T has the greater priority of his parity -/
theorem oft_wins (hf : finePar g) {a b : Int} (hab : b < a) (ha : a % 2 = i) (hp : ∀ v, v < g.1.length → gi g.2.2 v = if hasL T (v : Int) = true then a else b) :
    WinsIn (pgD g) (InN g.1.length) i (fun v => v < g.1.length ∧ (v : Int) ∈ oftL g.1 g.2.1 i T) (fun v => (gi (oftPlanL g.1 g.2.1 i T) v).toNat) := by
  have edge : ∀ v u : Nat, v < g.1.length → (v : Int) ∈ oftL g.1 g.2.1 i T → (pgD g).E v u → ((pgD g).own v = i → u = (gi (oftPlanL g.1 g.2.1 i T) v).toNat) → (u < g.1.length ∧ (u : Int) ∈ oftL g.1 g.2.1 i T) ∧ ((v : Int) ∈ T ∨ gi (ranksL g.1 g.2.1 i (oftL g.1 g.2.1 i T) T) u < gi (ranksL g.1 g.2.1 i (oftL g.1 g.2.1 i T) T) v) := by
    intro v u hv hz hE ho
    obtain ⟨j, hj, e⟩ := has_row hE
    have hl := oft_law hf.1 hv hz hj (fun own => by
      have h1 := ho own
      have h0 := (oft_val hf.1 hv hz own).1
      rw [e, h1, Int.toNat_of_nonneg h0])
    rw [e, Int.toNat_natCast] at hl
    have hb := (row_nat hf.1 hv hj).1
    rw [e, Int.toNat_natCast] at hb
    exact ⟨⟨hb, hl.1⟩, hl.2⟩
  refine ⟨fun v h => h.1, fun v h own => ?_, fun v u h hne hE _ => (edge v u h.1 h.2 hE (fun e => absurd e hne)).1, fun f q hP hF hL => ?_⟩
  · obtain ⟨j, hj, e⟩ := oft_edge hf.1 h.1 h.2 own
    have h0 := (oft_val hf.1 h.1 h.2 own).1
    have hE : (pgD g).E v (gi (oftPlanL g.1 g.2.1 i T) v).toNat := by
      show hasL (gl g.2.1 v) ((gi (oftPlanL g.1 g.2.1 i T) v).toNat : Int) = true
      rw [Int.toNat_of_nonneg h0, ← e]
      exact hasL_iff.2 (gi_mem hj)
    exact ⟨hE, (edge v _ h.1 h.2 hE (fun _ => rfl)).1⟩
  · obtain ⟨hinf, n0, hle⟩ := hL
    obtain ⟨m, _, hq⟩ := hinf 0
    have hq' := hp (f m) (hP m).1.1
    have hq2 : (pgD g).pr (f m) = gi g.2.2 (f m) := rfl
    by_cases hm : hasL T ((f m : Nat) : Int) = true
    · rw [if_pos hm] at hq'
      rw [← hq, hq2, hq']; exact ha
    · rw [if_neg hm] at hq'
      exfalso
      refine no_desc (fun m => gi (ranksL g.1 g.2.1 i (oftL g.1 g.2.1 i T) T) (f m)) n0 (fun k _ => oft_rank hf.1 (hP k).1.1 (hP k).1.2) (fun k hk => ?_)
      have h1 := (edge (f k) (f (k + 1)) (hP k).1.1 (hP k).1.2 (hP k).2 (hF k)).2
      rcases h1 with h1 | h1
      · have h2 := hle k hk
        have h3 : (pgD g).pr (f k) = gi g.2.2 (f k) := rfl
        have h4 := hp (f k) (hP k).1.1
        rw [if_pos (hasL_iff.2 h1)] at h4
        omega
      · exact h1
/-- who can stay within S for good wins where all of S has a priority of his parity -/
theorem stay_wins (hf : finePar g) {a b : Int} (ha : a % 2 = i) (hp : ∀ v, v < g.1.length → gi g.2.2 v = if hasL T (v : Int) = true then a else b) :
    WinsIn (pgD g) (InN g.1.length) i (fun v => v < g.1.length ∧ 0 ≤ gi (levelsL g.1 g.2.1 i T) v) (fun v => (planV g.1 g.2.1 i (levelsL g.1 g.2.1 i T) v).toNat) := by
  have edge : ∀ v u : Nat, v < g.1.length → 0 ≤ gi (levelsL g.1 g.2.1 i T) v → (pgD g).E v u → ((pgD g).own v = i → u = (planV g.1 g.2.1 i (levelsL g.1 g.2.1 i T) v).toNat) →
      (u < g.1.length ∧ 0 ≤ gi (levelsL g.1 g.2.1 i T) u) ∧ gi (levelsL g.1 g.2.1 i T) u ≤ gi (levelsL g.1 g.2.1 i T) v ∧ (gi (levelsL g.1 g.2.1 i T) u = gi (levelsL g.1 g.2.1 i T) v → hasL T (v : Int) = true) := by
    intro v u hv h0 hE ho
    obtain ⟨j, hj, e⟩ := has_row hE
    have hl := levels_law (s := T) hf.1 hv hj h0 (fun own => by
      have h1 := ho own
      have hpos := planV_pos hf.1 hv h0 own
      rw [e, h1, Int.toNat_of_nonneg hpos])
    rw [e, Int.toNat_natCast] at hl
    have hb := (row_nat hf.1 hv hj).1
    rw [e, Int.toNat_natCast] at hb
    exact ⟨⟨hb, hl.1⟩, hl.2⟩
  refine ⟨fun v h => h.1, fun v h own => ?_, fun v u h hne hE _ => (edge v u h.1 h.2 hE (fun e => absurd e hne)).1, fun f q hP hF hL => ?_⟩
  · have hpos := planV_pos (s := T) hf.1 h.1 h.2 own
    have hE : (pgD g).E v (planV g.1 g.2.1 i (levelsL g.1 g.2.1 i T) v).toNat := by
      show hasL (gl g.2.1 v) ((planV g.1 g.2.1 i (levelsL g.1 g.2.1 i T) v).toNat : Int) = true
      rw [Int.toNat_of_nonneg hpos]
      rcases (planF_fine (who := i) hf.1 (levelsL g.1 g.2.1 i T)).2 v h.1 with h1 | h1
      · rw [fill_at h.1] at h1; omega
      · rw [fill_at h.1] at h1; exact h1.2
    exact ⟨hE, (edge v _ h.1 h.2 hE (fun _ => rfl)).1⟩
  · obtain ⟨hinf, n0, hle⟩ := hL
    have st : ∀ k, _ := fun k => edge (f k) (f (k + 1)) (hP k).1.1 (hP k).1.2 (hP k).2 (hF k)
    obtain ⟨n1, h1⟩ := ant_const (fun k => (gi (levelsL g.1 g.2.1 i T) (f k)).toNat) (fun k => by have := (st k).2.1; show (gi (levelsL g.1 g.2.1 i T) (f (k + 1))).toNat ≤ (gi (levelsL g.1 g.2.1 i T) (f k)).toNat; omega)
    obtain ⟨m, hm, hq⟩ := hinf n1
    have e1 := h1 m hm
    have e2 := h1 (m + 1) (by omega)
    have p1 := (hP m).1.2; have p2 := (hP (m + 1)).1.2
    have hs := (st m).2.2 (by
      have e3 : (gi (levelsL g.1 g.2.1 i T) (f (m + 1))).toNat = (gi (levelsL g.1 g.2.1 i T) (f m)).toNat := e2.trans e1.symm
      omega)
    have h4 := hp (f m) (hP m).1.1
    rw [if_pos hs] at h4
    have hq2 : (pgD g).pr (f m) = gi g.2.2 (f m) := rfl
    rw [← hq, hq2, h4]
    exact ha
end
end Go.Proofs.Ytblmcmccdeelgaa
namespace Go.Proofs.Ytblmcmccdeelgaa
open Go.RowKit

abbrev TwoD := List Int × List Int
def RTv (w : World) (s0 s1 : Value) (z : TwoD) : Prop := RIv w s0 z.1 ∧ RIv w s1 z.2
def OT (w : World) (lo : Nat) (s0 s1 : Value) (z : TwoD) : Prop := OI 2 w lo s0 z.1 ∧ OI 2 w lo s1 z.2 ∧ Apart s0 s1
section
variable {w w' wb : World} {lo lo' : Nat} {s0 s1 : Value} {z : TwoD} {A0 A1 : Option Addr} {n0 c0 n1 c1 : Nat}
theorem RTv.keep (h : RTv w s0 s1 z) (k : Keeps w w') : RTv w' s0 s1 z := ⟨h.1.keep k, h.2.keep k⟩
theorem RTv.form (h : RTv w s0 s1 z) : ∃ A0 n0 c0 A1 n1 c1, s0 = .slice A0 n0 c0 ∧ s1 = .slice A1 n1 c1 := by
  obtain ⟨⟨A, m, c, e, _⟩, A', m', c', e', _⟩ := h
  exact ⟨A, m, c, A', m', c', e, e'⟩
theorem RTv.r1 (h : RTv w (.slice A0 n0 c0) (.slice A1 n1 c1) z) : RI w A0 n0 c0 z.1 := by
  obtain ⟨⟨A, m, c, e, hr⟩, _⟩ := h
  injection e with e1 e2 e3
  subst e1; subst e2; subst e3
  exact hr
theorem RTv.r2 (h : RTv w (.slice A0 n0 c0) (.slice A1 n1 c1) z) : RI w A1 n1 c1 z.2 := by
  obtain ⟨_, A, m, c, e, hr⟩ := h
  injection e with e1 e2 e3
  subst e1; subst e2; subst e3
  exact hr
theorem RTv.of (h : RI w A0 n0 c0 z.1) (k : RI w A1 n1 c1 z.2) : RTv w (.slice A0 n0 c0) (.slice A1 n1 c1) z := ⟨⟨_, _, _, rfl, h⟩, _, _, _, rfl, k⟩
theorem OT.form (h : OT w lo s0 s1 z) : ∃ A0 c0 A1 c1, s0 = .slice A0 z.1.length c0 ∧ s1 = .slice A1 z.2.length c1 := by
  obtain ⟨A0, c0, e0⟩ := h.1.form
  obtain ⟨A1, c1, e1⟩ := h.2.1.form
  exact ⟨A0, c0, A1, c1, e0, e1⟩
theorem OT.reads (h : OT w lo s0 s1 z) : RTv w s0 s1 z := ⟨h.1.rv, h.2.1.rv⟩
theorem OT.hold (h : OT wb lo s0 s1 z) (f : Far lo wb w) : OT w lo s0 s1 z := ⟨h.1.hold f, h.2.1.hold f, h.2.2⟩
theorem OT.below (h : OT w lo s0 s1 z) (hb : Below w.heap.size w w') : OT w' lo s0 s1 z := ⟨h.1.below hb, h.2.1.below hb, h.2.2⟩
theorem OT.more (h : OT w lo s0 s1 z) (hl : lo' ≤ lo) : OT w lo' s0 s1 z := ⟨h.1.more hl, h.2.1.more hl, h.2.2⟩
theorem OT.nil (w : World) (lo : Nat) : OT w lo (.slice none 0 0) (.slice none 0 0) ([], []) := ⟨OI.nil _ _ _, OI.nil _ _ _, .inl rfl⟩
end
end Go.Proofs.Ytblmcmccdeelgaa
