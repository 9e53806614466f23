/- What the rows that list variables give to the walks: the table of powers of ten, the players' names, the library's own number; and the wrap that hands them on. -/
import Derived.Test.YtkhkdnmpbfmmeaaDoorTxtL
import Derived.HandedShaped
import Derived.LaidLaws
import Derived.LaidSub
import Derived.Lay
import Derived.MakeChecks
import Derived.LaidHandle
import Derived.Stop.Joined
import Derived.ChangeVars
import Derived.Lib.LaidTab
import Derived.Lib.SmallJoins
namespace Go.Proofs.YtkhkdnmpbfmmeaaDoor
open Go.RowKit Go.ChangeShapes

section
variable {H : Type} {enc : TypeId × Value → H}
/-- a law's call, of the listed variables and of the world's shape -/
theorem returns_laid {a : Assume} {C : Checked} {os : Os} {f : FuncId} {fn : Func} {s : ChangeSpec} {conds : List PathCond} {apart fresh handsOn again : Bool} {laid : List (String × DataW Unit)}
    (own : ownKnob C.prog.godebug = none) (started : os.Started) (noInit : C.prog.inits.idxOf? f = none) (hfn : C.prog.funcs[f]? = some fn)
    (witness : ∃ (w : World) (tape : Tape) (i : Input), w.os = os ∧ (w.forCall tape i).Shaped C.prog ∧ i.vars = [] ∧ Input.okWide C.prog (w.forCall tape i) .any w.heap.size f i ∧
      ((s.pre enc C.prog fn conds apart (w.forCall tape i).memory i.args ∧ laidMetH C.prog laid (w.forCall tape i).memory) ∧ sizedMet enc C.prog fn (OpenSpec.ofChange s) apart (w.forCall tape i).memory i.args) ∧ a.holds C.prog (lone (Frame.enter C.prog f i.args .normal) [] (w.forCall tape i)))
    (contract : ∀ (W : World) (base : Nat) (args : Array Value) (ds gs : List (DataW H)) (before : List MemPlace),
      (∀ (j : Nat) t v, fn.params[j]? = some t → args[j]? = some v → Value.okWide C.prog W .any base t v) →
      DataW.Whole enc C.prog fn.params.toList s.vars apart W args.toList ds gs before →
      laidMetH C.prog laid W → W.ShapedOpen C.prog →
      Calls C.prog f args W fun e W' => ∃ v, e = .returned v ∧ s.post enc C.prog fn apart fresh handsOn again W args v W') :
    ReturnsInHanded a C os f .any (fun w args => (s.pre enc C.prog fn conds apart w args ∧ laidMetH C.prog laid w) ∧ sizedMet enc C.prog fn (OpenSpec.ofChange s) apart w args) (s.post enc C.prog fn apart fresh handsOn again) := by
  refine returnsInHanded_of_calls own started noInit witness ?_
  intro w tape i _ hsh _ hok hpre hholds
  obtain ⟨_, _, _, fn', hfn', _, _, _, _, hval⟩ := hok
  have e : fn' = fn := Option.some.inj (hfn'.symm.trans hfn)
  subst e
  obtain ⟨⟨⟨ds, gs, before, hw, hc⟩, hx⟩, hz⟩ := hpre
  have hw' := DataW.Whole.of_heap (w' := w.forCall tape i) (by rfl) hw
  refine (contract (w.forCall tape i) w.heap.size i.args ds gs before hval hw' (hx.of_heap (by rfl)) hsh).mono fun e W' ⟨v, he, hp⟩ => ?_
  subst he
  exact ChangeSpec.post_blind hp
end

/-- the pinned variables of a list that holds no handle -/
theorem laid_pick {l : List (String × DataW Unit)} {W : World} (hp : (l.all fun x => x.2.handleName?.isNone) = true) (h : laidMetH Tryd.prog l W) (n : String) : laidMet Tryd.prog (l.filter fun x => x.1 == n) W := by
  rw [MakeChecks.laidMetH_plain _ _ _ hp] at h
  exact h.filter _

/-! ### the names of the players -/
theorem trod_text {H : Type} {enc : TypeId × Value → H} {P : Program} {w w' : World} {base : Nat} {sp sp' : Nat → Bool} {held : Bool} {e : TypeId} (he : P.underlying e = some .string) (fuel : Nat) (cs : List Value) :
    DataW.trod enc P w base sp held fuel e cs = DataW.trod enc P w' base sp' held fuel e cs := by
  cases fuel with
  | zero => simp [DataW.trod]
  | succ n =>
    simp only [DataW.trod, he]
    cases cs with
    | nil => rfl
    | cons c r =>
      cases r with
      | nil => cases c <;> rfl
      | cons _ _ => cases c <;> rfl
theorem trod_texts {H : Type} {enc : TypeId × Value → H} {P : Program} {w w' : World} {base : Nat} {sp sp' : Nat → Bool} {held : Bool} {t e : TypeId} {n : Nat} (ht : P.underlying t = some (.array n e)) (he : P.underlying e = some .string) (fuel : Nat) (cs : List Value) :
    DataW.trod enc P w base sp held fuel t cs = DataW.trod enc P w' base sp' held fuel t cs := by
  cases fuel with
  | zero => simp [DataW.trod]
  | succ m =>
    simp only [DataW.trod, ht]
    simp only [trod_text (w := w) (w' := w') (sp := sp) (sp' := sp') he]
theorem gNam : Tryd.prog.globalNamed "loop.example/g00869/impl.playerNames" = some 0 := by kernel_rfl
theorem gNamType : (Tryd.prog.globals[0]?).map (·.type) = some 72 := by kernel_rfl
theorem cellsStr : Tryd.prog.cellsOf 9 = 1 := by kernel_rfl
theorem cellsNam : Tryd.prog.cellsOf 72 = 2 := by kernel_rfl
/-- the variable's reading goes on as it was -/
theorem names_stay {H : Type} {enc : TypeId × Value → H} {W W' : World} {sp sp' : Nat → Bool} {gs : List (DataW H)} {q : List MemPlace} (h : DataW.TrodVars enc Tryd.prog W sp ["loop.example/g00869/impl.playerNames"] gs q) (hb : Below W.heap.size W W') :
    DataW.TrodVars enc Tryd.prog W' sp' ["loop.example/g00869/impl.playerNames"] gs q := by
  obtain ⟨g, t, cs, fuel, d, p, rfl, h1, h2, h3, h4, rfl⟩ := trodVars_one h
  obtain rfl := Option.some.inj (gNam.symm.trans h1)
  obtain rfl := Option.some.inj (gNamType.symm.trans h2)
  rw [trod_texts (w' := W') (sp' := sp') Tryd.underlying72 Tryd.underlying9] at h4
  exact trodVars_mk1 gNam gNamType (Go.Joins.var_stays gNam h3 hb (Nat.le_refl _)) h4
theorem names_one {H : Type} {enc : TypeId × Value → H} {W : World} {sp : Nat → Bool} {gs : List (DataW H)} {q : List MemPlace} (h : DataW.TrodVars enc Tryd.prog W sp ["loop.example/g00869/impl.playerNames"] gs q) : ∃ g, gs = [g] := by
  obtain ⟨g, t, cs, fuel, d, p, rfl, _⟩ := trodVars_one h
  exact ⟨d, rfl⟩
theorem cells_of_texts {H : Type} {enc : TypeId × Value → H} {P : Program} {w : World} {base : Nat} {sp : Nat → Bool} {held : Bool} {fuel : Nat} {t e : TypeId} {cs : List Value} {a b : List UInt8} {p : List MemPlace}
    (ht : P.underlying t = some (.array 2 e)) (he : P.underlying e = some .string) (hce : P.cellsOf e = 1) (hct : P.cellsOf t = 2)
    (h : DataW.trod enc P w base sp held fuel t cs = some (.agg [.lit (.string a), .lit (.string b)], p)) : cs = [.string (tx a), .string (tx b)] := by
  cases fuel with
  | zero => simp [DataW.trod] at h
  | succ fuel =>
    simp only [DataW.trod, ht, hce, hct, Nat.mul_one] at h
    split at h
    · rename_i hl
      obtain ⟨xs, hm, hx⟩ := Option.map_eq_some_iff.1 h
      have hxs : xs.map (·.1) = [(DataW.lit (.string a) : DataW H), .lit (.string b)] := by
        have := congrArg Prod.fst hx
        simpa using this
      match cs, hl with
      | [c0, c1], _ =>
        obtain ⟨y0, hy0, hf0⟩ := Lib.mapM_at hm 0 0 (by rfl)
        obtain ⟨y1, hy1, hf1⟩ := Lib.mapM_at hm 1 1 (by rfl)
        obtain ⟨s0, hc0, e0, _⟩ := DataW.trod_string he hf0
        obtain ⟨s1, hc1, e1, _⟩ := DataW.trod_string he hf1
        have k0 := congrArg (·[0]?) hxs
        have k1 := congrArg (·[1]?) hxs
        simp [hy0, hy1, e0, e1] at k0 k1
        simp at hc0 hc1
        rw [hc0, hc1, ← k0, ← k1, ← Array.toList_inj.1 (rfl : s0.data.toList = s0.data.toList)]
        rw [tx_of, tx_of]
    · cases h
theorem names_of {l : List (String × DataW Unit)} {W : World} (hp : (l.all fun x => x.2.handleName?.isNone) = true) (h : laidMetH Tryd.prog l W)
    (hl : (l.filter fun x => x.1 == "loop.example/g00869/impl.playerNames") = [("loop.example/g00869/impl.playerNames", .agg [.lit (.string [101, 118, 101, 110]), .lit (.string [111, 100, 100])])]) : PN W := by
  have h1 := laid_pick hp h "loop.example/g00869/impl.playerNames"
  rw [hl] at h1
  obtain ⟨ps, ⟨g, t, cs, fuel, p, q, hg, ht, hvar, hd, _, _⟩, _⟩ := h1
  obtain rfl := Option.some.inj (gNam.symm.trans hg)
  obtain rfl := Option.some.inj (gNamType.symm.trans ht)
  have hc := cells_of_texts Tryd.underlying72 Tryd.underlying9 cellsStr cellsNam hd
  have c0 := World.var?_cell hg hvar 0
  have c1 := World.var?_cell hg hvar 1
  rw [← Array.getElem?_toList, hc] at c0 c1
  exact ⟨c0, c1⟩

/-- the library's own number -/
theorem max_of {W : World} (h : W.ShapedOpen Tryd.prog) : Max W := Tryd.lSplit.s1_3 W h
end Go.Proofs.YtkhkdnmpbfmmeaaDoor
