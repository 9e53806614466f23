/- A region that draws its order, by hand: one operation at a time, read off the written-out list. -/
import Derived.Deep.RegionHeld3
namespace Go.Proofs.YtkhkdnmpbfmmeaaDoor
section
variable {P : Program} {Q : Exit → Act → World → Prop} {md : Region.Mode} {S : World → Prop} {fuel : Nat} {listed : Array Bool} {a : Act} {w : World}
theorem takeH0 {o0 : Oper} {r : List Oper} {v : Value} (hs : Region.noSelect (List.toArray (o0 :: r)) = true) (hf : Region.free md (List.toArray (o0 :: r)) listed 0 = true) (hr : (Region.ready md (List.toArray (o0 :: r)) listed).contains 0 = true)
    (hQ : ∀ c a w, Q (.panic c) (a.put o0.dst v) w → Q (.panic c) a w) (hS : S w) (hw : Region.wanted o0 (yielded (List.toArray (o0 :: r)) a.tmps) = true) (hy : ∀ w, S w → (execOp a.eval o0).run P w = .ok (.value v) w)
    (h : wpAnyH P md (List.toArray (o0 :: r)) Q S fuel (listed.setIfInBounds 0 true) (a.put o0.dst v) w) : wpAnyH P md (List.toArray (o0 :: r)) Q S (fuel + 1) listed a w :=
  wpAnyH_take (i := 0) rfl hs hf hr hQ (Or.inl ⟨hw, hy⟩) hS h
theorem takeH1 {o0 o1 : Oper} {r : List Oper} {v : Value} (hs : Region.noSelect (List.toArray (o0 :: o1 :: r)) = true) (hf : Region.free md (List.toArray (o0 :: o1 :: r)) listed 1 = true) (hr : (Region.ready md (List.toArray (o0 :: o1 :: r)) listed).contains 1 = true)
    (hQ : ∀ c a w, Q (.panic c) (a.put o1.dst v) w → Q (.panic c) a w) (hS : S w) (hw : Region.wanted o1 (yielded (List.toArray (o0 :: o1 :: r)) a.tmps) = true) (hy : ∀ w, S w → (execOp a.eval o1).run P w = .ok (.value v) w)
    (h : wpAnyH P md (List.toArray (o0 :: o1 :: r)) Q S fuel (listed.setIfInBounds 1 true) (a.put o1.dst v) w) : wpAnyH P md (List.toArray (o0 :: o1 :: r)) Q S (fuel + 1) listed a w :=
  wpAnyH_take (i := 1) rfl hs hf hr hQ (Or.inl ⟨hw, hy⟩) hS h
theorem callH1 {o0 o1 : Oper} {r : List Oper} (hr : Region.ready md (List.toArray (o0 :: o1 :: r)) listed = [1])
    (h : ∀ K' : Act → World → Prop, Shut (∀ a w, S w → (S w → wpAnyH P md (List.toArray (o0 :: o1 :: r)) Q S fuel (listed.setIfInBounds 1 true) a w) → K' a w) → if Region.wanted o1 (yielded (List.toArray (o0 :: o1 :: r)) a.tmps) = true then Oper.wp P o1 a w K' Q else K' (a.put o1.dst undef) w) :
    wpAnyH P md (List.toArray (o0 :: o1 :: r)) Q S (fuel + 1) listed a w :=
  wpAnyH_ready (rs := [1]) hr (by simp) (AllReadyH.cons rfl h AllReadyH.nil)
theorem takeH2 {o0 o1 o2 : Oper} {r : List Oper} {v : Value} (hs : Region.noSelect (List.toArray (o0 :: o1 :: o2 :: r)) = true) (hf : Region.free md (List.toArray (o0 :: o1 :: o2 :: r)) listed 2 = true) (hr : (Region.ready md (List.toArray (o0 :: o1 :: o2 :: r)) listed).contains 2 = true)
    (hQ : ∀ c a w, Q (.panic c) (a.put o2.dst v) w → Q (.panic c) a w) (hS : S w) (hw : Region.wanted o2 (yielded (List.toArray (o0 :: o1 :: o2 :: r)) a.tmps) = true) (hy : ∀ w, S w → (execOp a.eval o2).run P w = .ok (.value v) w)
    (h : wpAnyH P md (List.toArray (o0 :: o1 :: o2 :: r)) Q S fuel (listed.setIfInBounds 2 true) (a.put o2.dst v) w) : wpAnyH P md (List.toArray (o0 :: o1 :: o2 :: r)) Q S (fuel + 1) listed a w :=
  wpAnyH_take (i := 2) rfl hs hf hr hQ (Or.inl ⟨hw, hy⟩) hS h
theorem callH2 {o0 o1 o2 : Oper} {r : List Oper} (hr : Region.ready md (List.toArray (o0 :: o1 :: o2 :: r)) listed = [2])
    (h : ∀ K' : Act → World → Prop, Shut (∀ a w, S w → (S w → wpAnyH P md (List.toArray (o0 :: o1 :: o2 :: r)) Q S fuel (listed.setIfInBounds 2 true) a w) → K' a w) → if Region.wanted o2 (yielded (List.toArray (o0 :: o1 :: o2 :: r)) a.tmps) = true then Oper.wp P o2 a w K' Q else K' (a.put o2.dst undef) w) :
    wpAnyH P md (List.toArray (o0 :: o1 :: o2 :: r)) Q S (fuel + 1) listed a w :=
  wpAnyH_ready (rs := [2]) hr (by simp) (AllReadyH.cons rfl h AllReadyH.nil)
theorem takeH3 {o0 o1 o2 o3 : Oper} {r : List Oper} {v : Value} (hs : Region.noSelect (List.toArray (o0 :: o1 :: o2 :: o3 :: r)) = true) (hf : Region.free md (List.toArray (o0 :: o1 :: o2 :: o3 :: r)) listed 3 = true) (hr : (Region.ready md (List.toArray (o0 :: o1 :: o2 :: o3 :: r)) listed).contains 3 = true)
    (hQ : ∀ c a w, Q (.panic c) (a.put o3.dst v) w → Q (.panic c) a w) (hS : S w) (hw : Region.wanted o3 (yielded (List.toArray (o0 :: o1 :: o2 :: o3 :: r)) a.tmps) = true) (hy : ∀ w, S w → (execOp a.eval o3).run P w = .ok (.value v) w)
    (h : wpAnyH P md (List.toArray (o0 :: o1 :: o2 :: o3 :: r)) Q S fuel (listed.setIfInBounds 3 true) (a.put o3.dst v) w) : wpAnyH P md (List.toArray (o0 :: o1 :: o2 :: o3 :: r)) Q S (fuel + 1) listed a w :=
  wpAnyH_take (i := 3) rfl hs hf hr hQ (Or.inl ⟨hw, hy⟩) hS h
theorem callH3 {o0 o1 o2 o3 : Oper} {r : List Oper} (hr : Region.ready md (List.toArray (o0 :: o1 :: o2 :: o3 :: r)) listed = [3])
    (h : ∀ K' : Act → World → Prop, Shut (∀ a w, S w → (S w → wpAnyH P md (List.toArray (o0 :: o1 :: o2 :: o3 :: r)) Q S fuel (listed.setIfInBounds 3 true) a w) → K' a w) → if Region.wanted o3 (yielded (List.toArray (o0 :: o1 :: o2 :: o3 :: r)) a.tmps) = true then Oper.wp P o3 a w K' Q else K' (a.put o3.dst undef) w) :
    wpAnyH P md (List.toArray (o0 :: o1 :: o2 :: o3 :: r)) Q S (fuel + 1) listed a w :=
  wpAnyH_ready (rs := [3]) hr (by simp) (AllReadyH.cons rfl h AllReadyH.nil)
theorem callH4 {o0 o1 o2 o3 o4 : Oper} {r : List Oper} (hr : Region.ready md (List.toArray (o0 :: o1 :: o2 :: o3 :: o4 :: r)) listed = [4])
    (h : ∀ K' : Act → World → Prop, Shut (∀ a w, S w → (S w → wpAnyH P md (List.toArray (o0 :: o1 :: o2 :: o3 :: o4 :: r)) Q S fuel (listed.setIfInBounds 4 true) a w) → K' a w) → if Region.wanted o4 (yielded (List.toArray (o0 :: o1 :: o2 :: o3 :: o4 :: r)) a.tmps) = true then Oper.wp P o4 a w K' Q else K' (a.put o4.dst undef) w) :
    wpAnyH P md (List.toArray (o0 :: o1 :: o2 :: o3 :: o4 :: r)) Q S (fuel + 1) listed a w :=
  wpAnyH_ready (rs := [4]) hr (by simp) (AllReadyH.cons rfl h AllReadyH.nil)
theorem callH5 {o0 o1 o2 o3 o4 o5 : Oper} {r : List Oper} (hr : Region.ready md (List.toArray (o0 :: o1 :: o2 :: o3 :: o4 :: o5 :: r)) listed = [5])
    (h : ∀ K' : Act → World → Prop, Shut (∀ a w, S w → (S w → wpAnyH P md (List.toArray (o0 :: o1 :: o2 :: o3 :: o4 :: o5 :: r)) Q S fuel (listed.setIfInBounds 5 true) a w) → K' a w) → if Region.wanted o5 (yielded (List.toArray (o0 :: o1 :: o2 :: o3 :: o4 :: o5 :: r)) a.tmps) = true then Oper.wp P o5 a w K' Q else K' (a.put o5.dst undef) w) :
    wpAnyH P md (List.toArray (o0 :: o1 :: o2 :: o3 :: o4 :: o5 :: r)) Q S (fuel + 1) listed a w :=
  wpAnyH_ready (rs := [5]) hr (by simp) (AllReadyH.cons rfl h AllReadyH.nil)
theorem takeH6 {o0 o1 o2 o3 o4 o5 o6 : Oper} {r : List Oper} {v : Value} (hs : Region.noSelect (List.toArray (o0 :: o1 :: o2 :: o3 :: o4 :: o5 :: o6 :: r)) = true) (hf : Region.free md (List.toArray (o0 :: o1 :: o2 :: o3 :: o4 :: o5 :: o6 :: r)) listed 6 = true) (hr : (Region.ready md (List.toArray (o0 :: o1 :: o2 :: o3 :: o4 :: o5 :: o6 :: r)) listed).contains 6 = true)
    (hQ : ∀ c a w, Q (.panic c) (a.put o6.dst v) w → Q (.panic c) a w) (hS : S w) (hw : Region.wanted o6 (yielded (List.toArray (o0 :: o1 :: o2 :: o3 :: o4 :: o5 :: o6 :: r)) a.tmps) = true) (hy : ∀ w, S w → (execOp a.eval o6).run P w = .ok (.value v) w)
    (h : wpAnyH P md (List.toArray (o0 :: o1 :: o2 :: o3 :: o4 :: o5 :: o6 :: r)) Q S fuel (listed.setIfInBounds 6 true) (a.put o6.dst v) w) : wpAnyH P md (List.toArray (o0 :: o1 :: o2 :: o3 :: o4 :: o5 :: o6 :: r)) Q S (fuel + 1) listed a w :=
  wpAnyH_take (i := 6) rfl hs hf hr hQ (Or.inl ⟨hw, hy⟩) hS h
theorem callH6 {o0 o1 o2 o3 o4 o5 o6 : Oper} {r : List Oper} (hr : Region.ready md (List.toArray (o0 :: o1 :: o2 :: o3 :: o4 :: o5 :: o6 :: r)) listed = [6])
    (h : ∀ K' : Act → World → Prop, Shut (∀ a w, S w → (S w → wpAnyH P md (List.toArray (o0 :: o1 :: o2 :: o3 :: o4 :: o5 :: o6 :: r)) Q S fuel (listed.setIfInBounds 6 true) a w) → K' a w) → if Region.wanted o6 (yielded (List.toArray (o0 :: o1 :: o2 :: o3 :: o4 :: o5 :: o6 :: r)) a.tmps) = true then Oper.wp P o6 a w K' Q else K' (a.put o6.dst undef) w) :
    wpAnyH P md (List.toArray (o0 :: o1 :: o2 :: o3 :: o4 :: o5 :: o6 :: r)) Q S (fuel + 1) listed a w :=
  wpAnyH_ready (rs := [6]) hr (by simp) (AllReadyH.cons rfl h AllReadyH.nil)
theorem takeH7 {o0 o1 o2 o3 o4 o5 o6 o7 : Oper} {r : List Oper} {v : Value} (hs : Region.noSelect (List.toArray (o0 :: o1 :: o2 :: o3 :: o4 :: o5 :: o6 :: o7 :: r)) = true) (hf : Region.free md (List.toArray (o0 :: o1 :: o2 :: o3 :: o4 :: o5 :: o6 :: o7 :: r)) listed 7 = true) (hr : (Region.ready md (List.toArray (o0 :: o1 :: o2 :: o3 :: o4 :: o5 :: o6 :: o7 :: r)) listed).contains 7 = true)
    (hQ : ∀ c a w, Q (.panic c) (a.put o7.dst v) w → Q (.panic c) a w) (hS : S w) (hw : Region.wanted o7 (yielded (List.toArray (o0 :: o1 :: o2 :: o3 :: o4 :: o5 :: o6 :: o7 :: r)) a.tmps) = true) (hy : ∀ w, S w → (execOp a.eval o7).run P w = .ok (.value v) w)
    (h : wpAnyH P md (List.toArray (o0 :: o1 :: o2 :: o3 :: o4 :: o5 :: o6 :: o7 :: r)) Q S fuel (listed.setIfInBounds 7 true) (a.put o7.dst v) w) : wpAnyH P md (List.toArray (o0 :: o1 :: o2 :: o3 :: o4 :: o5 :: o6 :: o7 :: r)) Q S (fuel + 1) listed a w :=
  wpAnyH_take (i := 7) rfl hs hf hr hQ (Or.inl ⟨hw, hy⟩) hS h
theorem callH7 {o0 o1 o2 o3 o4 o5 o6 o7 : Oper} {r : List Oper} (hr : Region.ready md (List.toArray (o0 :: o1 :: o2 :: o3 :: o4 :: o5 :: o6 :: o7 :: r)) listed = [7])
    (h : ∀ K' : Act → World → Prop, Shut (∀ a w, S w → (S w → wpAnyH P md (List.toArray (o0 :: o1 :: o2 :: o3 :: o4 :: o5 :: o6 :: o7 :: r)) Q S fuel (listed.setIfInBounds 7 true) a w) → K' a w) → if Region.wanted o7 (yielded (List.toArray (o0 :: o1 :: o2 :: o3 :: o4 :: o5 :: o6 :: o7 :: r)) a.tmps) = true then Oper.wp P o7 a w K' Q else K' (a.put o7.dst undef) w) :
    wpAnyH P md (List.toArray (o0 :: o1 :: o2 :: o3 :: o4 :: o5 :: o6 :: o7 :: r)) Q S (fuel + 1) listed a w :=
  wpAnyH_ready (rs := [7]) hr (by simp) (AllReadyH.cons rfl h AllReadyH.nil)
theorem takeH8 {o0 o1 o2 o3 o4 o5 o6 o7 o8 : Oper} {r : List Oper} {v : Value} (hs : Region.noSelect (List.toArray (o0 :: o1 :: o2 :: o3 :: o4 :: o5 :: o6 :: o7 :: o8 :: r)) = true) (hf : Region.free md (List.toArray (o0 :: o1 :: o2 :: o3 :: o4 :: o5 :: o6 :: o7 :: o8 :: r)) listed 8 = true) (hr : (Region.ready md (List.toArray (o0 :: o1 :: o2 :: o3 :: o4 :: o5 :: o6 :: o7 :: o8 :: r)) listed).contains 8 = true)
    (hQ : ∀ c a w, Q (.panic c) (a.put o8.dst v) w → Q (.panic c) a w) (hS : S w) (hw : Region.wanted o8 (yielded (List.toArray (o0 :: o1 :: o2 :: o3 :: o4 :: o5 :: o6 :: o7 :: o8 :: r)) a.tmps) = true) (hy : ∀ w, S w → (execOp a.eval o8).run P w = .ok (.value v) w)
    (h : wpAnyH P md (List.toArray (o0 :: o1 :: o2 :: o3 :: o4 :: o5 :: o6 :: o7 :: o8 :: r)) Q S fuel (listed.setIfInBounds 8 true) (a.put o8.dst v) w) : wpAnyH P md (List.toArray (o0 :: o1 :: o2 :: o3 :: o4 :: o5 :: o6 :: o7 :: o8 :: r)) Q S (fuel + 1) listed a w :=
  wpAnyH_take (i := 8) rfl hs hf hr hQ (Or.inl ⟨hw, hy⟩) hS h
theorem callH9 {o0 o1 o2 o3 o4 o5 o6 o7 o8 o9 : Oper} {r : List Oper} (hr : Region.ready md (List.toArray (o0 :: o1 :: o2 :: o3 :: o4 :: o5 :: o6 :: o7 :: o8 :: o9 :: r)) listed = [9])
    (h : ∀ K' : Act → World → Prop, Shut (∀ a w, S w → (S w → wpAnyH P md (List.toArray (o0 :: o1 :: o2 :: o3 :: o4 :: o5 :: o6 :: o7 :: o8 :: o9 :: r)) Q S fuel (listed.setIfInBounds 9 true) a w) → K' a w) → if Region.wanted o9 (yielded (List.toArray (o0 :: o1 :: o2 :: o3 :: o4 :: o5 :: o6 :: o7 :: o8 :: o9 :: r)) a.tmps) = true then Oper.wp P o9 a w K' Q else K' (a.put o9.dst undef) w) :
    wpAnyH P md (List.toArray (o0 :: o1 :: o2 :: o3 :: o4 :: o5 :: o6 :: o7 :: o8 :: o9 :: r)) Q S (fuel + 1) listed a w :=
  wpAnyH_ready (rs := [9]) hr (by simp) (AllReadyH.cons rfl h AllReadyH.nil)
end
end Go.Proofs.YtkhkdnmpbfmmeaaDoor
