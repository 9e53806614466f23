/- Texts that the proof reaches: Plan, Stay, Acc, Ranks, Attr, Plan2, Pull, OftP, Hand, Arn. -/
import Derived.Test.YtkhkdnmpbfmmeaaGreatDoorBn1
import Derived.Deep.RegionHeld3
namespace Go.Proofs.YtkhkdnmpbfmmeaaGreatDoor
open Go.RowKit

theorem infoI2 : (Tryz.prog.info? 2).map (fun i => (i.zero, i.size, i.bytes)) = some (some (.int .i64 0), 1, 8) := by kernel_rfl
set_option maxRecDepth 100000 in
theorem wpList_makeI {ops : Array Oper} {rest : List Oper} {o : Oper} {a : Act} {Q : Exit → Act → World → Prop} (hgd : o.guard = none) (s : Operand) (ho : o.op = .makeSlice 27 s s)
    (w : World) (n : Nat) (hs : a.eval s = .int .i64 n) (hn : n ≤ 1048576)
    (h : ∀ w', OI 2 w' w.heap.size (.slice (some ⟨w.heap.size, 0, none⟩) n n) (List.replicate n 0) → Below w.heap.size w w' → wpList Tryz.prog ops Q rest (a.put o.dst (.slice (some ⟨w.heap.size, 0, none⟩) n n)) w') : wpList Tryz.prog ops Q (o :: rest) a w := by
  obtain ⟨i0, hi0, hz0, hz1, hz2⟩ := info_parts infoI2
  refine wpList_make_full w hgd s s 27 ho w.heap.size 2 i0 (.int .i64 0) 1 Tryz.underlying27 hi0 hz0 hz1 .i64 .i64 _ _ n hs hs rfl rfl (by rw [hz2]; omega) (by unfold maxLen; omega) (Nat.le_refl _) ?_
  intro w1 hown hgrow
  exact h w1 (OI.made hown rfl) ((Below.refl _ _).grown hgrow (Nat.le_refl _) (by simp))

/-- the list of a function's values, those from k on still d -/
def fillUp (f : Nat → Int) (n : Nat) (g : Nat → Int) (k : Nat) : List Int := (List.range n).map fun i => if i < k then f i else g i
theorem fillUp_len (f g : Nat → Int) (n k : Nat) : (fillUp f n g k).length = n := by simp [fillUp]
theorem fillUp_at {f g : Nat → Int} {n k i : Nat} (h : i < n) : gi (fillUp f n g k) i = if i < k then f i else g i := by
  rw [gi_get (by rw [fillUp_len]; exact h)]
  simp [fillUp]
theorem fillUp_put {f g : Nat → Int} {n k : Nat} (h : k < n) : (fillUp f n g k).set k (f k) = fillUp f n g (k + 1) := by
  refine gi_ext (by simp [fillUp_len]) fun j hj => ?_
  rw [List.length_set, fillUp_len] at hj
  rw [gi_set (by rw [fillUp_len]; exact h), fillUp_at hj, fillUp_at hj]
  by_cases e : k = j
  · subst e; rw [if_pos rfl, if_pos (by omega)]
  · rw [if_neg e]
    by_cases e2 : j < k
    · rw [if_pos e2, if_pos (by omega)]
    · rw [if_neg e2, if_neg (by omega)]
theorem fillUp_same {f g : Nat → Int} {n k : Nat} (h : f k = g k) : fillUp f n g (k + 1) = fillUp f n g k := by
  refine gi_ext (by simp [fillUp_len]) fun j hj => ?_
  rw [fillUp_len] at hj
  rw [fillUp_at hj, fillUp_at hj]
  by_cases e : k = j
  · subst e; rw [if_pos (by omega), if_neg (by omega), h]
  · by_cases e2 : j < k
    · rw [if_pos e2, if_pos (by omega)]
    · rw [if_neg e2, if_neg (by omega)]
def fill (f : Nat → Int) (n : Nat) : List Int := (List.range n).map f
theorem fill_len (f : Nat → Int) (n : Nat) : (fill f n).length = n := by simp [fill]
theorem fill_at {f : Nat → Int} {n i : Nat} (h : i < n) : gi (fill f n) i = f i := by
  rw [gi_get (by rw [fill_len]; exact h)]; simp [fill]
theorem fillUp_zero (f g : Nat → Int) (n : Nat) : fillUp f n g 0 = fill g n := by unfold fillUp fill; exact List.map_congr_left fun i _ => by simp
theorem fillUp_full (f g : Nat → Int) (n : Nat) : fillUp f n g n = fill f n := by
  unfold fillUp fill
  exact List.map_congr_left fun i hi => by rw [if_pos (List.mem_range.1 hi)]
theorem fill_zeros (n : Nat) : List.replicate n 0 = fill (fun _ => 0) n := by
  unfold fill
  induction n with
  | zero => rfl
  | succ n ih => rw [List.range_succ, List.map_append, ← ih, List.replicate_succ']; rfl
theorem fill_succ (f : Nat → Int) (n : Nat) : fill f (n + 1) = fill f n ++ [f n] := by
  unfold fill
  rw [List.range_succ, List.map_append]; rfl
def negL (n : Nat) : List Int := fill (fun _ => -1) n

/-! ### the first successor that is allowed -/
end Go.Proofs.YtkhkdnmpbfmmeaaGreatDoor
namespace Go.Proofs.YtkhkdnmpbfmmeaaGreatDoor
open Go.RowKit

/-- the marks of the greatest set that who need not leave -/
noncomputable def stayM (o : List Int) (n : List (List Int)) (who : Int) (s : List Int) : List Bool := gfp (intoB o n who) o.length (mkM o.length s)
end Go.Proofs.YtkhkdnmpbfmmeaaGreatDoor
namespace Go.Proofs.YtkhkdnmpbfmmeaaGreatDoor
open Go.RowKit

theorem Chg.push {S T : Nat → Prop} {a b c : World} (h : Chg S a b) (k : Chg T b c) (hT : ∀ x, T x → S x ∨ a.heap.size ≤ x) : Chg S a c :=
  ⟨k.os.trans h.os, k.tape.trans h.tape, k.output.trans h.output, Nat.le_trans h.size k.size, fun x hx hu =>
    (k.block x (Nat.lt_of_lt_of_le hx h.size) (fun ht => (hT x ht).elim hu (by omega))).trans (h.block x hx hu)⟩
theorem Chg.drewN {S : Nat → Prop} {a b : World} (h : Chg S a b) (q : Nat) : Chg S a (b.drewN q) := ⟨h.os, h.tape, h.output, h.size, h.block⟩
theorem Chg.then_below {S : Nat → Prop} {a b c : World} {B : Nat} (h : Chg S a b) (k : Below B b c) (hB : a.heap.size ≤ B) : Chg S a c :=
  ⟨k.os.trans h.os, k.tape.trans h.tape, k.output.trans h.output, Nat.le_trans h.size k.size, fun x hx hu => (k.block x (by omega)).trans (h.block x hx hu)⟩
theorem apart_of {u v : Value} (h : ∀ b, u.ownBlock = some b → v.ownBlock = some b → False) : Apart u v := by
  unfold Apart
  cases e : u.ownBlock with
  | none => exact .inl rfl
  | some b => exact .inr fun e' => h b e e'.symm
theorem RI.one1 {w : World} {b : Nat} {x : Int} (h : w.cell? ⟨b, 0, none⟩ = some (.int .i64 x)) : RI w (some ⟨b, 0, none⟩) 1 1 [x] :=
  ⟨rfl, ⟨by omega, by omega⟩, fun i hi => ⟨b, 0, rfl, by
    obtain rfl : i = 0 := by omega
    simpa [gi] using h⟩⟩
/-- the places whose number is not negative -/
def wonUp (L : List Int) (k : Nat) : List Int := pick (fun i => decide (0 ≤ gi L i)) (fun i => (i : Int)) k
theorem OI.off {E : TypeId} {w : World} {lo g n c : Nat} {xs : List Int} (h : OI E w lo (.slice (some ⟨g, 0, none⟩) n c) xs) {p : Addr} (hp : g ≠ p.block) (u : Value) : OI E (w.setCell p u) lo (.slice (some ⟨g, 0, none⟩) n c) xs :=
  h.chg (Chg.set p u) fun b hb hs => hp (by have hb' : some g = some b := hb; injection hb' with e; exact e.trans hs)
theorem OB.off {E : TypeId} {w : World} {lo g n c : Nat} {xs : List Bool} (h : OB E w lo (.slice (some ⟨g, 0, none⟩) n c) xs) {p : Addr} (hp : g ≠ p.block) (u : Value) : OB E (w.setCell p u) lo (.slice (some ⟨g, 0, none⟩) n c) xs :=
  row_chg h (Chg.set p u) fun b hb hs => hp (by have hb' : some g = some b := hb; injection hb' with e; exact e.trans hs)
end Go.Proofs.YtkhkdnmpbfmmeaaGreatDoor
namespace Go.Proofs.YtkhkdnmpbfmmeaaGreatDoor
open Go.RowKit

/-! ### is a vertex pulled to ranked ones -/
def pSome (ns : List Int) (ins : List Bool) (rk : List Int) : Nat → Bool
  | 0 => false
  | k + 1 => pSome ns ins rk k || (gb ins (gi ns k).toNat && decide (0 ≤ gi rk (gi ns k).toNat))
def pAll (ns : List Int) (ins : List Bool) (rk : List Int) : Nat → Bool
  | 0 => true
  | k + 1 => pAll ns ins rk k && (!gb ins (gi ns k).toNat || decide (0 ≤ gi rk (gi ns k).toNat))
def pIn (ns : List Int) (ins : List Bool) : Nat → Bool
  | 0 => false
  | k + 1 => pIn ns ins k || gb ins (gi ns k).toNat
def pulledB (o : List Int) (n : List (List Int)) (who : Int) (ins : List Bool) (rk : List Int) (v : Nat) : Bool :=
  if gi o v = who then pSome (gl n v) ins rk (gl n v).length else pIn (gl n v) ins (gl n v).length && pAll (gl n v) ins rk (gl n v).length
/-! ### a list into which the elements of a set are written -/
/-! ### the rounds -/
def rnk0 (ins : List Bool) (goal : List Int) (m : Nat) : List Int := fill (fun v => if hasL goal (v : Int) = true then (if gb ins v = true then 0 else -1) else -1) m
def rnkC (o : List Int) (n : List (List Int)) (who : Int) (ins : List Bool) (R : List Int) (v : Nat) : Bool := decide (gi R v < 0) && pulledB o n who ins R v
def rnkS (o : List Int) (n : List (List Int)) (who : Int) (inn : List Int) (ins : List Bool) (R : List Int) (k : Nat) (m : Nat) : List Int := fill (fun v => if hasL inn (v : Int) = true then (if rnkC o n who ins R v = true then (k : Int) else gi R v) else gi R v) m
def rnks (o : List Int) (n : List (List Int)) (who : Int) (inn goal : List Int) (m : Nat) : Nat → List Int
  | 0 => rnk0 (mkM m inn) goal m
  | k + 1 => rnkS o n who inn (mkM m inn) (rnks o n who inn goal m k) (k + 1) m
theorem rnks_len (o : List Int) (n : List (List Int)) (who : Int) (inn goal : List Int) (m k : Nat) : (rnks o n who inn goal m k).length = m := by
  cases k <;> exact fill_len _ _
/-- no vertex comes in with the next round -/
def rnkEnd (o : List Int) (n : List (List Int)) (who : Int) (inn : List Int) (R : List Int) (m : Nat) : Prop := ∀ v, v < m → hasL inn (v : Int) = true → rnkC o n who (mkM m inn) R v = false
theorem rnkS_end {o : List Int} {n : List (List Int)} {who : Int} {inn : List Int} {R : List Int} {m : Nat} (hl : R.length = m) (h : rnkEnd o n who inn R m) (k : Nat) : rnkS o n who inn (mkM m inn) R k m = R := by
  refine gi_ext (by unfold rnkS; rw [fill_len, hl]) fun v hv => ?_
  unfold rnkS at hv ⊢
  rw [fill_len] at hv
  rw [fill_at hv]
  split
  · rename_i hi
    rw [h v hv hi]; rfl
  · rfl
def isRnk (o : List Int) (n : List (List Int)) (who : Int) (inn goal : List Int) (m : Nat) (R : List Int) : Prop := ∃ k, R = rnks o n who inn goal m k ∧ rnkEnd o n who inn R m
theorem rnks_fix {o : List Int} {n : List (List Int)} {who : Int} {inn goal : List Int} {m k : Nat} (h : rnkEnd o n who inn (rnks o n who inn goal m k) m) : ∀ d, rnks o n who inn goal m (k + d) = rnks o n who inn goal m k
  | 0 => rfl
  | d + 1 => by rw [← Nat.add_assoc, rnks, rnks_fix h d, rnkS_end (rnks_len _ _ _ _ _ _ _) h]
theorem isRnk.eq {o : List Int} {n : List (List Int)} {who : Int} {inn goal : List Int} {m : Nat} {r r' : List Int} (h : isRnk o n who inn goal m r) (h' : isRnk o n who inn goal m r') : r = r' := by
  obtain ⟨t, rfl, hf⟩ := h
  obtain ⟨t', rfl, hf'⟩ := h'
  rcases Nat.le_total t t' with hl | hl
  · have := rnks_fix hf (t' - t)
    rw [show t + (t' - t) = t' from by omega] at this
    exact this.symm
  · have := rnks_fix hf' (t - t')
    rw [show t' + (t - t') = t from by omega] at this
    exact this
noncomputable def rankE (o : List Int) (n : List (List Int)) (who : Int) (inn goal : List Int) (m : Nat) : List Int := @Classical.epsilon _ ⟨[]⟩ (isRnk o n who inn goal m)
theorem isRnk.is {o : List Int} {n : List (List Int)} {who : Int} {inn goal : List Int} {m : Nat} {r : List Int} (h : isRnk o n who inn goal m r) : r = rankE o n who inn goal m := h.eq (@Classical.epsilon_spec _ (isRnk o n who inn goal m) ⟨r, h⟩)
theorem isRnk.len {o : List Int} {n : List (List Int)} {who : Int} {inn goal : List Int} {m : Nat} {r : List Int} (h : isRnk o n who inn goal m r) : r.length = m := by
  obtain ⟨t, rfl, _⟩ := h
  exact rnks_len _ _ _ _ _ _ _

/-! ### how many have no rank -/
noncomputable def ranksL (o : List Int) (n : List (List Int)) (who : Int) (inn goal : List Int) : List Int := rankE o n who inn goal o.length
/-! ### ranks and rounds -/
end Go.Proofs.YtkhkdnmpbfmmeaaGreatDoor
namespace Go.Proofs.YtkhkdnmpbfmmeaaGreatDoor
open Go.RowKit

set_option maxHeartbeats 400000 in
theorem l1Same (A B : Option Addr) (n m c d : Nat) (xs ys : List Int) (w : World) (ha : RI w A n c xs) (hb : RI w B m d ys) :
    Calls Tryz.prog 29 #[.slice A n c, .slice B m d] w fun e w' => e = .returned (.bool (eqL xs ys)) ∧ Qt w w' := by
  have b1 := ha.cap; have b2 := ha.top; have b3 := hb.cap; have b4 := hb.top
  by_cases hnm : n = m
  · subst hnm
    have hnn : ((n : Int) != (n : Int)) = false := by simp
    go_enter Tryz.func29, Tryz.ntmps29
    go_wp2
    go_loopw [5] (fun i wr => ∃ k : Nat, k ≤ n ∧ i = .int .i64 k ∧ (∀ j, j < k → gi xs j = gi ys j) ∧ ∃ q, wr = w.drewN q) (fun i _ => n - (intOf i).toNat)
    case atStart => exact ⟨0, Nat.zero_le _, rfl, by omega, 0, rfl⟩
    case round =>
      obtain ⟨k, hk, rfl, hall, q, rfl⟩ := hrel
      by_cases hlt : k < n
      · obtain ⟨b, off, rfl, hc1⟩ := ha.at_ hlt
        obtain ⟨b', off', rfl, hc2⟩ := hb.at_ hlt
        have hki : (k : Int) < (n : Int) := by omega
        have hk0 : (0 : Int) ≤ (k : Int) := by omega
        by_cases he : gi xs k = gi ys k
        · have H := Lib.hid he
          have hne : (gi xs k != gi ys k) = false := by simp [he]
          clear he
          go_wp2
          go_quiet (fail)
          go_wp2
          go_roundw
          case rel => exact ⟨k + 1, by omega, by go_num, all_succ hall H.out, _, rfl⟩
          case measure => simp [intOf]; omega
        · have H := Lib.hid he
          have hne : (gi xs k != gi ys k) = true := by simp [he]
          clear he
          go_wp2
          go_quiet (fail)
          go_wp2
          go_ret
          exact ⟨ret_b (eqL_ne H.out).symm, Qt.drew2 _ _⟩
      · go_wp2
        go_ret
        obtain rfl : k = n := by omega
        exact ⟨ret_b (eqL_of ha.1 hb.1 hall).symm, _, rfl⟩
  · have hnn : ((n : Int) != (m : Int)) = true := by simp; omega
    have H := Lib.hid hnm
    clear hnm
    go_enter Tryz.func29, Tryz.ntmps29
    go_wp2
    go_ret
    exact ⟨ret_b (eqL_len (by rw [ha.1, hb.1]; exact H.out)).symm, Qt.refl _⟩



theorem l1Max (x y : Int) (w : World) :
    Calls Tryz.prog 94 #[.int .i64 x, .int .i64 y] w fun e w' => e = .returned (.int .i64 (if y < x then x else y)) ∧ Qt w w' := by
  by_cases h : y < x
  · go_enter Tryz.func94, Tryz.ntmps94
    go_wp2
    go_ret
    exact ⟨rfl, Qt.refl _⟩
  · go_enter Tryz.func94, Tryz.ntmps94
    go_wp2
    go_ret
    exact ⟨rfl, Qt.refl _⟩

/-! ### the rank that those there are give -/
end Go.Proofs.YtkhkdnmpbfmmeaaGreatDoor
namespace Go.Proofs.YtkhkdnmpbfmmeaaGreatDoor
open Go.RowKit

end Go.Proofs.YtkhkdnmpbfmmeaaGreatDoor
namespace Go.Proofs.YtkhkdnmpbfmmeaaGreatDoor
open Go.RowKit


end Go.Proofs.YtkhkdnmpbfmmeaaGreatDoor
namespace Go.Proofs.YtkhkdnmpbfmmeaaGreatDoor
open Go.RowKit

noncomputable def attrL (o : List Int) (n : List (List Int)) (who : Int) (inn goal : List Int) : List Int := wonUp (ranksL o n who inn goal) o.length
end Go.Proofs.YtkhkdnmpbfmmeaaGreatDoor
namespace Go.Proofs.YtkhkdnmpbfmmeaaGreatDoor
open Go.RowKit

end Go.Proofs.YtkhkdnmpbfmmeaaGreatDoor
namespace Go.Proofs.YtkhkdnmpbfmmeaaGreatDoor
open Go.RowKit

theorem gi_app_lt {xs : List Int} {x : Int} {i : Nat} (h : i < xs.length) : gi (xs ++ [x]) i = gi xs i := by simp [gi, List.getElem?_append_left h]
theorem gi_app_eq {xs : List Int} {x : Int} : gi (xs ++ [x]) xs.length = x := by simp [gi]
end Go.Proofs.YtkhkdnmpbfmmeaaGreatDoor
namespace Go.Proofs.YtkhkdnmpbfmmeaaGreatDoor
open Go.RowKit

end Go.Proofs.YtkhkdnmpbfmmeaaGreatDoor
namespace Go.Proofs.YtkhkdnmpbfmmeaaGreatDoor
open Go.RowKit

/-! ### rising lists -/
theorem set_mem {xs : List Int} {n : Int} (h : setB xs n = true) {x : Int} (hx : x ∈ xs) : 0 ≤ x ∧ x < n := by
  obtain ⟨i, hi, rfl⟩ := mem_gi hx
  have := setB_true.1 h i hi
  exact ⟨this.1, this.2.1⟩
theorem hasL_iff {xs : List Int} {x : Int} : hasL xs x = true ↔ x ∈ xs := decide_eq_true_iff
/-! ### the greatest set -/
/-! ### a step into a set -/
/-! ### the attractor -/
/-! ### the rounds -/
/-- one round -/
noncomputable def oftStep (o : List Int) (n : List (List Int)) (who : Int) (goal s : List Int) : List Int := listM (stayM o n who (attrL o n who s goal))
/-- the rounds -/
noncomputable def oftS (o : List Int) (n : List (List Int)) (who : Int) (goal : List Int) : Nat → List Int
  | 0 => allL o.length
  | k + 1 => oftStep o n who goal (oftS o n who goal k)
def isOft (o : List Int) (n : List (List Int)) (who : Int) (goal R : List Int) : Prop := ∃ k, R = oftS o n who goal k ∧ oftStep o n who goal R = R
theorem oftS_fix {o : List Int} {n : List (List Int)} {who : Int} {goal : List Int} {k : Nat} (h : oftStep o n who goal (oftS o n who goal k) = oftS o n who goal k) : ∀ d, oftS o n who goal (k + d) = oftS o n who goal k
  | 0 => rfl
  | d + 1 => by rw [← Nat.add_assoc, oftS, oftS_fix h d, h]
theorem isOft.eq {o : List Int} {n : List (List Int)} {who : Int} {goal r r' : List Int} (h : isOft o n who goal r) (h' : isOft o n who goal r') : r = r' := by
  obtain ⟨t, rfl, hf⟩ := h
  obtain ⟨t', rfl, hf'⟩ := h'
  rcases Nat.le_total t t' with hl | hl
  · have := oftS_fix hf (t' - t)
    rw [show t + (t' - t) = t' from by omega] at this
    exact this.symm
  · have := oftS_fix hf' (t - t')
    rw [show t' + (t - t') = t from by omega] at this
    exact this
noncomputable def oftL (o : List Int) (n : List (List Int)) (who : Int) (goal : List Int) : List Int := @Classical.epsilon _ ⟨[]⟩ (isOft o n who goal)
theorem isOft.is {o : List Int} {n : List (List Int)} {who : Int} {goal r : List Int} (h : isOft o n who goal r) : r = oftL o n who goal := h.eq (@Classical.epsilon_spec _ (isOft o n who goal) ⟨r, h⟩)
/-! ### first choices, ranks -/
section
variable {o : List Int} {n : List (List Int)} {who : Int} {goal : List Int}
end
end Go.Proofs.YtkhkdnmpbfmmeaaGreatDoor
namespace Go.Proofs.YtkhkdnmpbfmmeaaGreatDoor
section
variable {P : Program} {Q : Exit → Act → World → Prop} {md : Region.Mode} {S : World → Prop} {fuel : Nat} {listed : Array Bool} {a : Act} {w : World}
theorem takeH0 {o0 : Oper} {r : List Oper} {v : Value} (hs : Region.noSelect (List.toArray (o0 :: r)) = true) (hf : Region.free md (List.toArray (o0 :: r)) listed 0 = true) (hr : (Region.ready md (List.toArray (o0 :: r)) listed).contains 0 = true)
    (hQ : ∀ c a w, Q (.panic c) (a.put o0.dst v) w → Q (.panic c) a w) (hS : S w) (hw : Region.wanted o0 (yielded (List.toArray (o0 :: r)) a.tmps) = true) (hy : ∀ w, S w → (execOp a.eval o0).run P w = .ok (.value v) w)
    (h : wpAnyH P md (List.toArray (o0 :: r)) Q S fuel (listed.setIfInBounds 0 true) (a.put o0.dst v) w) : wpAnyH P md (List.toArray (o0 :: r)) Q S (fuel + 1) listed a w :=
  wpAnyH_take (i := 0) rfl hs hf hr hQ (Or.inl ⟨hw, hy⟩) hS h
theorem takeH1 {o0 o1 : Oper} {r : List Oper} {v : Value} (hs : Region.noSelect (List.toArray (o0 :: o1 :: r)) = true) (hf : Region.free md (List.toArray (o0 :: o1 :: r)) listed 1 = true) (hr : (Region.ready md (List.toArray (o0 :: o1 :: r)) listed).contains 1 = true)
    (hQ : ∀ c a w, Q (.panic c) (a.put o1.dst v) w → Q (.panic c) a w) (hS : S w) (hw : Region.wanted o1 (yielded (List.toArray (o0 :: o1 :: r)) a.tmps) = true) (hy : ∀ w, S w → (execOp a.eval o1).run P w = .ok (.value v) w)
    (h : wpAnyH P md (List.toArray (o0 :: o1 :: r)) Q S fuel (listed.setIfInBounds 1 true) (a.put o1.dst v) w) : wpAnyH P md (List.toArray (o0 :: o1 :: r)) Q S (fuel + 1) listed a w :=
  wpAnyH_take (i := 1) rfl hs hf hr hQ (Or.inl ⟨hw, hy⟩) hS h
theorem callH1 {o0 o1 : Oper} {r : List Oper} (hr : Region.ready md (List.toArray (o0 :: o1 :: r)) listed = [1])
    (h : ∀ K' : Act → World → Prop, Shut (∀ a w, S w → (S w → wpAnyH P md (List.toArray (o0 :: o1 :: r)) Q S fuel (listed.setIfInBounds 1 true) a w) → K' a w) → if Region.wanted o1 (yielded (List.toArray (o0 :: o1 :: r)) a.tmps) = true then Oper.wp P o1 a w K' Q else K' (a.put o1.dst undef) w) :
    wpAnyH P md (List.toArray (o0 :: o1 :: r)) Q S (fuel + 1) listed a w :=
  wpAnyH_ready (rs := [1]) hr (by simp) (AllReadyH.cons rfl h AllReadyH.nil)
theorem takeH2 {o0 o1 o2 : Oper} {r : List Oper} {v : Value} (hs : Region.noSelect (List.toArray (o0 :: o1 :: o2 :: r)) = true) (hf : Region.free md (List.toArray (o0 :: o1 :: o2 :: r)) listed 2 = true) (hr : (Region.ready md (List.toArray (o0 :: o1 :: o2 :: r)) listed).contains 2 = true)
    (hQ : ∀ c a w, Q (.panic c) (a.put o2.dst v) w → Q (.panic c) a w) (hS : S w) (hw : Region.wanted o2 (yielded (List.toArray (o0 :: o1 :: o2 :: r)) a.tmps) = true) (hy : ∀ w, S w → (execOp a.eval o2).run P w = .ok (.value v) w)
    (h : wpAnyH P md (List.toArray (o0 :: o1 :: o2 :: r)) Q S fuel (listed.setIfInBounds 2 true) (a.put o2.dst v) w) : wpAnyH P md (List.toArray (o0 :: o1 :: o2 :: r)) Q S (fuel + 1) listed a w :=
  wpAnyH_take (i := 2) rfl hs hf hr hQ (Or.inl ⟨hw, hy⟩) hS h
theorem callH2 {o0 o1 o2 : Oper} {r : List Oper} (hr : Region.ready md (List.toArray (o0 :: o1 :: o2 :: r)) listed = [2])
    (h : ∀ K' : Act → World → Prop, Shut (∀ a w, S w → (S w → wpAnyH P md (List.toArray (o0 :: o1 :: o2 :: r)) Q S fuel (listed.setIfInBounds 2 true) a w) → K' a w) → if Region.wanted o2 (yielded (List.toArray (o0 :: o1 :: o2 :: r)) a.tmps) = true then Oper.wp P o2 a w K' Q else K' (a.put o2.dst undef) w) :
    wpAnyH P md (List.toArray (o0 :: o1 :: o2 :: r)) Q S (fuel + 1) listed a w :=
  wpAnyH_ready (rs := [2]) hr (by simp) (AllReadyH.cons rfl h AllReadyH.nil)
theorem takeH3 {o0 o1 o2 o3 : Oper} {r : List Oper} {v : Value} (hs : Region.noSelect (List.toArray (o0 :: o1 :: o2 :: o3 :: r)) = true) (hf : Region.free md (List.toArray (o0 :: o1 :: o2 :: o3 :: r)) listed 3 = true) (hr : (Region.ready md (List.toArray (o0 :: o1 :: o2 :: o3 :: r)) listed).contains 3 = true)
    (hQ : ∀ c a w, Q (.panic c) (a.put o3.dst v) w → Q (.panic c) a w) (hS : S w) (hw : Region.wanted o3 (yielded (List.toArray (o0 :: o1 :: o2 :: o3 :: r)) a.tmps) = true) (hy : ∀ w, S w → (execOp a.eval o3).run P w = .ok (.value v) w)
    (h : wpAnyH P md (List.toArray (o0 :: o1 :: o2 :: o3 :: r)) Q S fuel (listed.setIfInBounds 3 true) (a.put o3.dst v) w) : wpAnyH P md (List.toArray (o0 :: o1 :: o2 :: o3 :: r)) Q S (fuel + 1) listed a w :=
  wpAnyH_take (i := 3) rfl hs hf hr hQ (Or.inl ⟨hw, hy⟩) hS h
theorem callH3 {o0 o1 o2 o3 : Oper} {r : List Oper} (hr : Region.ready md (List.toArray (o0 :: o1 :: o2 :: o3 :: r)) listed = [3])
    (h : ∀ K' : Act → World → Prop, Shut (∀ a w, S w → (S w → wpAnyH P md (List.toArray (o0 :: o1 :: o2 :: o3 :: r)) Q S fuel (listed.setIfInBounds 3 true) a w) → K' a w) → if Region.wanted o3 (yielded (List.toArray (o0 :: o1 :: o2 :: o3 :: r)) a.tmps) = true then Oper.wp P o3 a w K' Q else K' (a.put o3.dst undef) w) :
    wpAnyH P md (List.toArray (o0 :: o1 :: o2 :: o3 :: r)) Q S (fuel + 1) listed a w :=
  wpAnyH_ready (rs := [3]) hr (by simp) (AllReadyH.cons rfl h AllReadyH.nil)
theorem takeH4 {o0 o1 o2 o3 o4 : Oper} {r : List Oper} {v : Value} (hs : Region.noSelect (List.toArray (o0 :: o1 :: o2 :: o3 :: o4 :: r)) = true) (hf : Region.free md (List.toArray (o0 :: o1 :: o2 :: o3 :: o4 :: r)) listed 4 = true) (hr : (Region.ready md (List.toArray (o0 :: o1 :: o2 :: o3 :: o4 :: r)) listed).contains 4 = true)
    (hQ : ∀ c a w, Q (.panic c) (a.put o4.dst v) w → Q (.panic c) a w) (hS : S w) (hw : Region.wanted o4 (yielded (List.toArray (o0 :: o1 :: o2 :: o3 :: o4 :: r)) a.tmps) = true) (hy : ∀ w, S w → (execOp a.eval o4).run P w = .ok (.value v) w)
    (h : wpAnyH P md (List.toArray (o0 :: o1 :: o2 :: o3 :: o4 :: r)) Q S fuel (listed.setIfInBounds 4 true) (a.put o4.dst v) w) : wpAnyH P md (List.toArray (o0 :: o1 :: o2 :: o3 :: o4 :: r)) Q S (fuel + 1) listed a w :=
  wpAnyH_take (i := 4) rfl hs hf hr hQ (Or.inl ⟨hw, hy⟩) hS h
theorem callH4 {o0 o1 o2 o3 o4 : Oper} {r : List Oper} (hr : Region.ready md (List.toArray (o0 :: o1 :: o2 :: o3 :: o4 :: r)) listed = [4])
    (h : ∀ K' : Act → World → Prop, Shut (∀ a w, S w → (S w → wpAnyH P md (List.toArray (o0 :: o1 :: o2 :: o3 :: o4 :: r)) Q S fuel (listed.setIfInBounds 4 true) a w) → K' a w) → if Region.wanted o4 (yielded (List.toArray (o0 :: o1 :: o2 :: o3 :: o4 :: r)) a.tmps) = true then Oper.wp P o4 a w K' Q else K' (a.put o4.dst undef) w) :
    wpAnyH P md (List.toArray (o0 :: o1 :: o2 :: o3 :: o4 :: r)) Q S (fuel + 1) listed a w :=
  wpAnyH_ready (rs := [4]) hr (by simp) (AllReadyH.cons rfl h AllReadyH.nil)
theorem takeH5 {o0 o1 o2 o3 o4 o5 : Oper} {r : List Oper} {v : Value} (hs : Region.noSelect (List.toArray (o0 :: o1 :: o2 :: o3 :: o4 :: o5 :: r)) = true) (hf : Region.free md (List.toArray (o0 :: o1 :: o2 :: o3 :: o4 :: o5 :: r)) listed 5 = true) (hr : (Region.ready md (List.toArray (o0 :: o1 :: o2 :: o3 :: o4 :: o5 :: r)) listed).contains 5 = true)
    (hQ : ∀ c a w, Q (.panic c) (a.put o5.dst v) w → Q (.panic c) a w) (hS : S w) (hw : Region.wanted o5 (yielded (List.toArray (o0 :: o1 :: o2 :: o3 :: o4 :: o5 :: r)) a.tmps) = true) (hy : ∀ w, S w → (execOp a.eval o5).run P w = .ok (.value v) w)
    (h : wpAnyH P md (List.toArray (o0 :: o1 :: o2 :: o3 :: o4 :: o5 :: r)) Q S fuel (listed.setIfInBounds 5 true) (a.put o5.dst v) w) : wpAnyH P md (List.toArray (o0 :: o1 :: o2 :: o3 :: o4 :: o5 :: r)) Q S (fuel + 1) listed a w :=
  wpAnyH_take (i := 5) rfl hs hf hr hQ (Or.inl ⟨hw, hy⟩) hS h
theorem callH5 {o0 o1 o2 o3 o4 o5 : Oper} {r : List Oper} (hr : Region.ready md (List.toArray (o0 :: o1 :: o2 :: o3 :: o4 :: o5 :: r)) listed = [5])
    (h : ∀ K' : Act → World → Prop, Shut (∀ a w, S w → (S w → wpAnyH P md (List.toArray (o0 :: o1 :: o2 :: o3 :: o4 :: o5 :: r)) Q S fuel (listed.setIfInBounds 5 true) a w) → K' a w) → if Region.wanted o5 (yielded (List.toArray (o0 :: o1 :: o2 :: o3 :: o4 :: o5 :: r)) a.tmps) = true then Oper.wp P o5 a w K' Q else K' (a.put o5.dst undef) w) :
    wpAnyH P md (List.toArray (o0 :: o1 :: o2 :: o3 :: o4 :: o5 :: r)) Q S (fuel + 1) listed a w :=
  wpAnyH_ready (rs := [5]) hr (by simp) (AllReadyH.cons rfl h AllReadyH.nil)
theorem takeH6 {o0 o1 o2 o3 o4 o5 o6 : Oper} {r : List Oper} {v : Value} (hs : Region.noSelect (List.toArray (o0 :: o1 :: o2 :: o3 :: o4 :: o5 :: o6 :: r)) = true) (hf : Region.free md (List.toArray (o0 :: o1 :: o2 :: o3 :: o4 :: o5 :: o6 :: r)) listed 6 = true) (hr : (Region.ready md (List.toArray (o0 :: o1 :: o2 :: o3 :: o4 :: o5 :: o6 :: r)) listed).contains 6 = true)
    (hQ : ∀ c a w, Q (.panic c) (a.put o6.dst v) w → Q (.panic c) a w) (hS : S w) (hw : Region.wanted o6 (yielded (List.toArray (o0 :: o1 :: o2 :: o3 :: o4 :: o5 :: o6 :: r)) a.tmps) = true) (hy : ∀ w, S w → (execOp a.eval o6).run P w = .ok (.value v) w)
    (h : wpAnyH P md (List.toArray (o0 :: o1 :: o2 :: o3 :: o4 :: o5 :: o6 :: r)) Q S fuel (listed.setIfInBounds 6 true) (a.put o6.dst v) w) : wpAnyH P md (List.toArray (o0 :: o1 :: o2 :: o3 :: o4 :: o5 :: o6 :: r)) Q S (fuel + 1) listed a w :=
  wpAnyH_take (i := 6) rfl hs hf hr hQ (Or.inl ⟨hw, hy⟩) hS h
theorem callH6 {o0 o1 o2 o3 o4 o5 o6 : Oper} {r : List Oper} (hr : Region.ready md (List.toArray (o0 :: o1 :: o2 :: o3 :: o4 :: o5 :: o6 :: r)) listed = [6])
    (h : ∀ K' : Act → World → Prop, Shut (∀ a w, S w → (S w → wpAnyH P md (List.toArray (o0 :: o1 :: o2 :: o3 :: o4 :: o5 :: o6 :: r)) Q S fuel (listed.setIfInBounds 6 true) a w) → K' a w) → if Region.wanted o6 (yielded (List.toArray (o0 :: o1 :: o2 :: o3 :: o4 :: o5 :: o6 :: r)) a.tmps) = true then Oper.wp P o6 a w K' Q else K' (a.put o6.dst undef) w) :
    wpAnyH P md (List.toArray (o0 :: o1 :: o2 :: o3 :: o4 :: o5 :: o6 :: r)) Q S (fuel + 1) listed a w :=
  wpAnyH_ready (rs := [6]) hr (by simp) (AllReadyH.cons rfl h AllReadyH.nil)
theorem takeH7 {o0 o1 o2 o3 o4 o5 o6 o7 : Oper} {r : List Oper} {v : Value} (hs : Region.noSelect (List.toArray (o0 :: o1 :: o2 :: o3 :: o4 :: o5 :: o6 :: o7 :: r)) = true) (hf : Region.free md (List.toArray (o0 :: o1 :: o2 :: o3 :: o4 :: o5 :: o6 :: o7 :: r)) listed 7 = true) (hr : (Region.ready md (List.toArray (o0 :: o1 :: o2 :: o3 :: o4 :: o5 :: o6 :: o7 :: r)) listed).contains 7 = true)
    (hQ : ∀ c a w, Q (.panic c) (a.put o7.dst v) w → Q (.panic c) a w) (hS : S w) (hw : Region.wanted o7 (yielded (List.toArray (o0 :: o1 :: o2 :: o3 :: o4 :: o5 :: o6 :: o7 :: r)) a.tmps) = true) (hy : ∀ w, S w → (execOp a.eval o7).run P w = .ok (.value v) w)
    (h : wpAnyH P md (List.toArray (o0 :: o1 :: o2 :: o3 :: o4 :: o5 :: o6 :: o7 :: r)) Q S fuel (listed.setIfInBounds 7 true) (a.put o7.dst v) w) : wpAnyH P md (List.toArray (o0 :: o1 :: o2 :: o3 :: o4 :: o5 :: o6 :: o7 :: r)) Q S (fuel + 1) listed a w :=
  wpAnyH_take (i := 7) rfl hs hf hr hQ (Or.inl ⟨hw, hy⟩) hS h
theorem callH7 {o0 o1 o2 o3 o4 o5 o6 o7 : Oper} {r : List Oper} (hr : Region.ready md (List.toArray (o0 :: o1 :: o2 :: o3 :: o4 :: o5 :: o6 :: o7 :: r)) listed = [7])
    (h : ∀ K' : Act → World → Prop, Shut (∀ a w, S w → (S w → wpAnyH P md (List.toArray (o0 :: o1 :: o2 :: o3 :: o4 :: o5 :: o6 :: o7 :: r)) Q S fuel (listed.setIfInBounds 7 true) a w) → K' a w) → if Region.wanted o7 (yielded (List.toArray (o0 :: o1 :: o2 :: o3 :: o4 :: o5 :: o6 :: o7 :: r)) a.tmps) = true then Oper.wp P o7 a w K' Q else K' (a.put o7.dst undef) w) :
    wpAnyH P md (List.toArray (o0 :: o1 :: o2 :: o3 :: o4 :: o5 :: o6 :: o7 :: r)) Q S (fuel + 1) listed a w :=
  wpAnyH_ready (rs := [7]) hr (by simp) (AllReadyH.cons rfl h AllReadyH.nil)
theorem takeH8 {o0 o1 o2 o3 o4 o5 o6 o7 o8 : Oper} {r : List Oper} {v : Value} (hs : Region.noSelect (List.toArray (o0 :: o1 :: o2 :: o3 :: o4 :: o5 :: o6 :: o7 :: o8 :: r)) = true) (hf : Region.free md (List.toArray (o0 :: o1 :: o2 :: o3 :: o4 :: o5 :: o6 :: o7 :: o8 :: r)) listed 8 = true) (hr : (Region.ready md (List.toArray (o0 :: o1 :: o2 :: o3 :: o4 :: o5 :: o6 :: o7 :: o8 :: r)) listed).contains 8 = true)
    (hQ : ∀ c a w, Q (.panic c) (a.put o8.dst v) w → Q (.panic c) a w) (hS : S w) (hw : Region.wanted o8 (yielded (List.toArray (o0 :: o1 :: o2 :: o3 :: o4 :: o5 :: o6 :: o7 :: o8 :: r)) a.tmps) = true) (hy : ∀ w, S w → (execOp a.eval o8).run P w = .ok (.value v) w)
    (h : wpAnyH P md (List.toArray (o0 :: o1 :: o2 :: o3 :: o4 :: o5 :: o6 :: o7 :: o8 :: r)) Q S fuel (listed.setIfInBounds 8 true) (a.put o8.dst v) w) : wpAnyH P md (List.toArray (o0 :: o1 :: o2 :: o3 :: o4 :: o5 :: o6 :: o7 :: o8 :: r)) Q S (fuel + 1) listed a w :=
  wpAnyH_take (i := 8) rfl hs hf hr hQ (Or.inl ⟨hw, hy⟩) hS h
theorem callH8 {o0 o1 o2 o3 o4 o5 o6 o7 o8 : Oper} {r : List Oper} (hr : Region.ready md (List.toArray (o0 :: o1 :: o2 :: o3 :: o4 :: o5 :: o6 :: o7 :: o8 :: r)) listed = [8])
    (h : ∀ K' : Act → World → Prop, Shut (∀ a w, S w → (S w → wpAnyH P md (List.toArray (o0 :: o1 :: o2 :: o3 :: o4 :: o5 :: o6 :: o7 :: o8 :: r)) Q S fuel (listed.setIfInBounds 8 true) a w) → K' a w) → if Region.wanted o8 (yielded (List.toArray (o0 :: o1 :: o2 :: o3 :: o4 :: o5 :: o6 :: o7 :: o8 :: r)) a.tmps) = true then Oper.wp P o8 a w K' Q else K' (a.put o8.dst undef) w) :
    wpAnyH P md (List.toArray (o0 :: o1 :: o2 :: o3 :: o4 :: o5 :: o6 :: o7 :: o8 :: r)) Q S (fuel + 1) listed a w :=
  wpAnyH_ready (rs := [8]) hr (by simp) (AllReadyH.cons rfl h AllReadyH.nil)
theorem takeH9 {o0 o1 o2 o3 o4 o5 o6 o7 o8 o9 : Oper} {r : List Oper} {v : Value} (hs : Region.noSelect (List.toArray (o0 :: o1 :: o2 :: o3 :: o4 :: o5 :: o6 :: o7 :: o8 :: o9 :: r)) = true) (hf : Region.free md (List.toArray (o0 :: o1 :: o2 :: o3 :: o4 :: o5 :: o6 :: o7 :: o8 :: o9 :: r)) listed 9 = true) (hr : (Region.ready md (List.toArray (o0 :: o1 :: o2 :: o3 :: o4 :: o5 :: o6 :: o7 :: o8 :: o9 :: r)) listed).contains 9 = true)
    (hQ : ∀ c a w, Q (.panic c) (a.put o9.dst v) w → Q (.panic c) a w) (hS : S w) (hw : Region.wanted o9 (yielded (List.toArray (o0 :: o1 :: o2 :: o3 :: o4 :: o5 :: o6 :: o7 :: o8 :: o9 :: r)) a.tmps) = true) (hy : ∀ w, S w → (execOp a.eval o9).run P w = .ok (.value v) w)
    (h : wpAnyH P md (List.toArray (o0 :: o1 :: o2 :: o3 :: o4 :: o5 :: o6 :: o7 :: o8 :: o9 :: r)) Q S fuel (listed.setIfInBounds 9 true) (a.put o9.dst v) w) : wpAnyH P md (List.toArray (o0 :: o1 :: o2 :: o3 :: o4 :: o5 :: o6 :: o7 :: o8 :: o9 :: r)) Q S (fuel + 1) listed a w :=
  wpAnyH_take (i := 9) rfl hs hf hr hQ (Or.inl ⟨hw, hy⟩) hS h
theorem callH9 {o0 o1 o2 o3 o4 o5 o6 o7 o8 o9 : Oper} {r : List Oper} (hr : Region.ready md (List.toArray (o0 :: o1 :: o2 :: o3 :: o4 :: o5 :: o6 :: o7 :: o8 :: o9 :: r)) listed = [9])
    (h : ∀ K' : Act → World → Prop, Shut (∀ a w, S w → (S w → wpAnyH P md (List.toArray (o0 :: o1 :: o2 :: o3 :: o4 :: o5 :: o6 :: o7 :: o8 :: o9 :: r)) Q S fuel (listed.setIfInBounds 9 true) a w) → K' a w) → if Region.wanted o9 (yielded (List.toArray (o0 :: o1 :: o2 :: o3 :: o4 :: o5 :: o6 :: o7 :: o8 :: o9 :: r)) a.tmps) = true then Oper.wp P o9 a w K' Q else K' (a.put o9.dst undef) w) :
    wpAnyH P md (List.toArray (o0 :: o1 :: o2 :: o3 :: o4 :: o5 :: o6 :: o7 :: o8 :: o9 :: r)) Q S (fuel + 1) listed a w :=
  wpAnyH_ready (rs := [9]) hr (by simp) (AllReadyH.cons rfl h AllReadyH.nil)
theorem takeH10 {o0 o1 o2 o3 o4 o5 o6 o7 o8 o9 o10 : Oper} {r : List Oper} {v : Value} (hs : Region.noSelect (List.toArray (o0 :: o1 :: o2 :: o3 :: o4 :: o5 :: o6 :: o7 :: o8 :: o9 :: o10 :: r)) = true) (hf : Region.free md (List.toArray (o0 :: o1 :: o2 :: o3 :: o4 :: o5 :: o6 :: o7 :: o8 :: o9 :: o10 :: r)) listed 10 = true) (hr : (Region.ready md (List.toArray (o0 :: o1 :: o2 :: o3 :: o4 :: o5 :: o6 :: o7 :: o8 :: o9 :: o10 :: r)) listed).contains 10 = true)
    (hQ : ∀ c a w, Q (.panic c) (a.put o10.dst v) w → Q (.panic c) a w) (hS : S w) (hw : Region.wanted o10 (yielded (List.toArray (o0 :: o1 :: o2 :: o3 :: o4 :: o5 :: o6 :: o7 :: o8 :: o9 :: o10 :: r)) a.tmps) = true) (hy : ∀ w, S w → (execOp a.eval o10).run P w = .ok (.value v) w)
    (h : wpAnyH P md (List.toArray (o0 :: o1 :: o2 :: o3 :: o4 :: o5 :: o6 :: o7 :: o8 :: o9 :: o10 :: r)) Q S fuel (listed.setIfInBounds 10 true) (a.put o10.dst v) w) : wpAnyH P md (List.toArray (o0 :: o1 :: o2 :: o3 :: o4 :: o5 :: o6 :: o7 :: o8 :: o9 :: o10 :: r)) Q S (fuel + 1) listed a w :=
  wpAnyH_take (i := 10) rfl hs hf hr hQ (Or.inl ⟨hw, hy⟩) hS h
theorem callH10 {o0 o1 o2 o3 o4 o5 o6 o7 o8 o9 o10 : Oper} {r : List Oper} (hr : Region.ready md (List.toArray (o0 :: o1 :: o2 :: o3 :: o4 :: o5 :: o6 :: o7 :: o8 :: o9 :: o10 :: r)) listed = [10])
    (h : ∀ K' : Act → World → Prop, Shut (∀ a w, S w → (S w → wpAnyH P md (List.toArray (o0 :: o1 :: o2 :: o3 :: o4 :: o5 :: o6 :: o7 :: o8 :: o9 :: o10 :: r)) Q S fuel (listed.setIfInBounds 10 true) a w) → K' a w) → if Region.wanted o10 (yielded (List.toArray (o0 :: o1 :: o2 :: o3 :: o4 :: o5 :: o6 :: o7 :: o8 :: o9 :: o10 :: r)) a.tmps) = true then Oper.wp P o10 a w K' Q else K' (a.put o10.dst undef) w) :
    wpAnyH P md (List.toArray (o0 :: o1 :: o2 :: o3 :: o4 :: o5 :: o6 :: o7 :: o8 :: o9 :: o10 :: r)) Q S (fuel + 1) listed a w :=
  wpAnyH_ready (rs := [10]) hr (by simp) (AllReadyH.cons rfl h AllReadyH.nil)
theorem takeH11 {o0 o1 o2 o3 o4 o5 o6 o7 o8 o9 o10 o11 : Oper} {r : List Oper} {v : Value} (hs : Region.noSelect (List.toArray (o0 :: o1 :: o2 :: o3 :: o4 :: o5 :: o6 :: o7 :: o8 :: o9 :: o10 :: o11 :: r)) = true) (hf : Region.free md (List.toArray (o0 :: o1 :: o2 :: o3 :: o4 :: o5 :: o6 :: o7 :: o8 :: o9 :: o10 :: o11 :: r)) listed 11 = true) (hr : (Region.ready md (List.toArray (o0 :: o1 :: o2 :: o3 :: o4 :: o5 :: o6 :: o7 :: o8 :: o9 :: o10 :: o11 :: r)) listed).contains 11 = true)
    (hQ : ∀ c a w, Q (.panic c) (a.put o11.dst v) w → Q (.panic c) a w) (hS : S w) (hw : Region.wanted o11 (yielded (List.toArray (o0 :: o1 :: o2 :: o3 :: o4 :: o5 :: o6 :: o7 :: o8 :: o9 :: o10 :: o11 :: r)) a.tmps) = true) (hy : ∀ w, S w → (execOp a.eval o11).run P w = .ok (.value v) w)
    (h : wpAnyH P md (List.toArray (o0 :: o1 :: o2 :: o3 :: o4 :: o5 :: o6 :: o7 :: o8 :: o9 :: o10 :: o11 :: r)) Q S fuel (listed.setIfInBounds 11 true) (a.put o11.dst v) w) : wpAnyH P md (List.toArray (o0 :: o1 :: o2 :: o3 :: o4 :: o5 :: o6 :: o7 :: o8 :: o9 :: o10 :: o11 :: r)) Q S (fuel + 1) listed a w :=
  wpAnyH_take (i := 11) rfl hs hf hr hQ (Or.inl ⟨hw, hy⟩) hS h
theorem callH11 {o0 o1 o2 o3 o4 o5 o6 o7 o8 o9 o10 o11 : Oper} {r : List Oper} (hr : Region.ready md (List.toArray (o0 :: o1 :: o2 :: o3 :: o4 :: o5 :: o6 :: o7 :: o8 :: o9 :: o10 :: o11 :: r)) listed = [11])
    (h : ∀ K' : Act → World → Prop, Shut (∀ a w, S w → (S w → wpAnyH P md (List.toArray (o0 :: o1 :: o2 :: o3 :: o4 :: o5 :: o6 :: o7 :: o8 :: o9 :: o10 :: o11 :: r)) Q S fuel (listed.setIfInBounds 11 true) a w) → K' a w) → if Region.wanted o11 (yielded (List.toArray (o0 :: o1 :: o2 :: o3 :: o4 :: o5 :: o6 :: o7 :: o8 :: o9 :: o10 :: o11 :: r)) a.tmps) = true then Oper.wp P o11 a w K' Q else K' (a.put o11.dst undef) w) :
    wpAnyH P md (List.toArray (o0 :: o1 :: o2 :: o3 :: o4 :: o5 :: o6 :: o7 :: o8 :: o9 :: o10 :: o11 :: r)) Q S (fuel + 1) listed a w :=
  wpAnyH_ready (rs := [11]) hr (by simp) (AllReadyH.cons rfl h AllReadyH.nil)
theorem takeH12 {o0 o1 o2 o3 o4 o5 o6 o7 o8 o9 o10 o11 o12 : Oper} {r : List Oper} {v : Value} (hs : Region.noSelect (List.toArray (o0 :: o1 :: o2 :: o3 :: o4 :: o5 :: o6 :: o7 :: o8 :: o9 :: o10 :: o11 :: o12 :: r)) = true) (hf : Region.free md (List.toArray (o0 :: o1 :: o2 :: o3 :: o4 :: o5 :: o6 :: o7 :: o8 :: o9 :: o10 :: o11 :: o12 :: r)) listed 12 = true) (hr : (Region.ready md (List.toArray (o0 :: o1 :: o2 :: o3 :: o4 :: o5 :: o6 :: o7 :: o8 :: o9 :: o10 :: o11 :: o12 :: r)) listed).contains 12 = true)
    (hQ : ∀ c a w, Q (.panic c) (a.put o12.dst v) w → Q (.panic c) a w) (hS : S w) (hw : Region.wanted o12 (yielded (List.toArray (o0 :: o1 :: o2 :: o3 :: o4 :: o5 :: o6 :: o7 :: o8 :: o9 :: o10 :: o11 :: o12 :: r)) a.tmps) = true) (hy : ∀ w, S w → (execOp a.eval o12).run P w = .ok (.value v) w)
    (h : wpAnyH P md (List.toArray (o0 :: o1 :: o2 :: o3 :: o4 :: o5 :: o6 :: o7 :: o8 :: o9 :: o10 :: o11 :: o12 :: r)) Q S fuel (listed.setIfInBounds 12 true) (a.put o12.dst v) w) : wpAnyH P md (List.toArray (o0 :: o1 :: o2 :: o3 :: o4 :: o5 :: o6 :: o7 :: o8 :: o9 :: o10 :: o11 :: o12 :: r)) Q S (fuel + 1) listed a w :=
  wpAnyH_take (i := 12) rfl hs hf hr hQ (Or.inl ⟨hw, hy⟩) hS h
theorem callH12 {o0 o1 o2 o3 o4 o5 o6 o7 o8 o9 o10 o11 o12 : Oper} {r : List Oper} (hr : Region.ready md (List.toArray (o0 :: o1 :: o2 :: o3 :: o4 :: o5 :: o6 :: o7 :: o8 :: o9 :: o10 :: o11 :: o12 :: r)) listed = [12])
    (h : ∀ K' : Act → World → Prop, Shut (∀ a w, S w → (S w → wpAnyH P md (List.toArray (o0 :: o1 :: o2 :: o3 :: o4 :: o5 :: o6 :: o7 :: o8 :: o9 :: o10 :: o11 :: o12 :: r)) Q S fuel (listed.setIfInBounds 12 true) a w) → K' a w) → if Region.wanted o12 (yielded (List.toArray (o0 :: o1 :: o2 :: o3 :: o4 :: o5 :: o6 :: o7 :: o8 :: o9 :: o10 :: o11 :: o12 :: r)) a.tmps) = true then Oper.wp P o12 a w K' Q else K' (a.put o12.dst undef) w) :
    wpAnyH P md (List.toArray (o0 :: o1 :: o2 :: o3 :: o4 :: o5 :: o6 :: o7 :: o8 :: o9 :: o10 :: o11 :: o12 :: r)) Q S (fuel + 1) listed a w :=
  wpAnyH_ready (rs := [12]) hr (by simp) (AllReadyH.cons rfl h AllReadyH.nil)
theorem callH13 {o0 o1 o2 o3 o4 o5 o6 o7 o8 o9 o10 o11 o12 o13 : Oper} {r : List Oper} (hr : Region.ready md (List.toArray (o0 :: o1 :: o2 :: o3 :: o4 :: o5 :: o6 :: o7 :: o8 :: o9 :: o10 :: o11 :: o12 :: o13 :: r)) listed = [13])
    (h : ∀ K' : Act → World → Prop, Shut (∀ a w, S w → (S w → wpAnyH P md (List.toArray (o0 :: o1 :: o2 :: o3 :: o4 :: o5 :: o6 :: o7 :: o8 :: o9 :: o10 :: o11 :: o12 :: o13 :: r)) Q S fuel (listed.setIfInBounds 13 true) a w) → K' a w) → if Region.wanted o13 (yielded (List.toArray (o0 :: o1 :: o2 :: o3 :: o4 :: o5 :: o6 :: o7 :: o8 :: o9 :: o10 :: o11 :: o12 :: o13 :: r)) a.tmps) = true then Oper.wp P o13 a w K' Q else K' (a.put o13.dst undef) w) :
    wpAnyH P md (List.toArray (o0 :: o1 :: o2 :: o3 :: o4 :: o5 :: o6 :: o7 :: o8 :: o9 :: o10 :: o11 :: o12 :: o13 :: r)) Q S (fuel + 1) listed a w :=
  wpAnyH_ready (rs := [13]) hr (by simp) (AllReadyH.cons rfl h AllReadyH.nil)
theorem callH14 {o0 o1 o2 o3 o4 o5 o6 o7 o8 o9 o10 o11 o12 o13 o14 : Oper} {r : List Oper} (hr : Region.ready md (List.toArray (o0 :: o1 :: o2 :: o3 :: o4 :: o5 :: o6 :: o7 :: o8 :: o9 :: o10 :: o11 :: o12 :: o13 :: o14 :: r)) listed = [14])
    (h : ∀ K' : Act → World → Prop, Shut (∀ a w, S w → (S w → wpAnyH P md (List.toArray (o0 :: o1 :: o2 :: o3 :: o4 :: o5 :: o6 :: o7 :: o8 :: o9 :: o10 :: o11 :: o12 :: o13 :: o14 :: r)) Q S fuel (listed.setIfInBounds 14 true) a w) → K' a w) → if Region.wanted o14 (yielded (List.toArray (o0 :: o1 :: o2 :: o3 :: o4 :: o5 :: o6 :: o7 :: o8 :: o9 :: o10 :: o11 :: o12 :: o13 :: o14 :: r)) a.tmps) = true then Oper.wp P o14 a w K' Q else K' (a.put o14.dst undef) w) :
    wpAnyH P md (List.toArray (o0 :: o1 :: o2 :: o3 :: o4 :: o5 :: o6 :: o7 :: o8 :: o9 :: o10 :: o11 :: o12 :: o13 :: o14 :: r)) Q S (fuel + 1) listed a w :=
  wpAnyH_ready (rs := [14]) hr (by simp) (AllReadyH.cons rfl h AllReadyH.nil)
end
end Go.Proofs.YtkhkdnmpbfmmeaaGreatDoor
namespace Go.Proofs.YtkhkdnmpbfmmeaaGreatDoor
open Go.RowKit

theorem twoH_1_3 {P : Program} {Q : Exit → Act → World → Prop} {md : Region.Mode} {S : World → Prop} {fuel : Nat} {listed : Array Bool} {a : Act} {w : World} {o0 o1 o2 o3 : Oper} {r : List Oper} (hr : Region.ready md (List.toArray (o0 :: o1 :: o2 :: o3 :: r)) listed = [1, 3])
    (h1 : ∀ K' : Act → World → Prop, Shut (∀ a w, S w → (S w → wpAnyH P md (List.toArray (o0 :: o1 :: o2 :: o3 :: r)) Q S fuel (listed.setIfInBounds 1 true) a w) → K' a w) → if Region.wanted o1 (yielded (List.toArray (o0 :: o1 :: o2 :: o3 :: r)) a.tmps) = true then Oper.wp P o1 a w K' Q else K' (a.put o1.dst undef) w) (h2 : ∀ K' : Act → World → Prop, Shut (∀ a w, S w → (S w → wpAnyH P md (List.toArray (o0 :: o1 :: o2 :: o3 :: r)) Q S fuel (listed.setIfInBounds 3 true) a w) → K' a w) → if Region.wanted o3 (yielded (List.toArray (o0 :: o1 :: o2 :: o3 :: r)) a.tmps) = true then Oper.wp P o3 a w K' Q else K' (a.put o3.dst undef) w) : wpAnyH P md (List.toArray (o0 :: o1 :: o2 :: o3 :: r)) Q S (fuel + 1) listed a w :=
  wpAnyH_ready (rs := [1, 3]) hr (by simp) (AllReadyH.cons rfl h1 (AllReadyH.cons rfl h2 AllReadyH.nil))
theorem twoH_1_4 {P : Program} {Q : Exit → Act → World → Prop} {md : Region.Mode} {S : World → Prop} {fuel : Nat} {listed : Array Bool} {a : Act} {w : World} {o0 o1 o2 o3 o4 : Oper} {r : List Oper} (hr : Region.ready md (List.toArray (o0 :: o1 :: o2 :: o3 :: o4 :: r)) listed = [1, 4])
    (h1 : ∀ K' : Act → World → Prop, Shut (∀ a w, S w → (S w → wpAnyH P md (List.toArray (o0 :: o1 :: o2 :: o3 :: o4 :: r)) Q S fuel (listed.setIfInBounds 1 true) a w) → K' a w) → if Region.wanted o1 (yielded (List.toArray (o0 :: o1 :: o2 :: o3 :: o4 :: r)) a.tmps) = true then Oper.wp P o1 a w K' Q else K' (a.put o1.dst undef) w) (h2 : ∀ K' : Act → World → Prop, Shut (∀ a w, S w → (S w → wpAnyH P md (List.toArray (o0 :: o1 :: o2 :: o3 :: o4 :: r)) Q S fuel (listed.setIfInBounds 4 true) a w) → K' a w) → if Region.wanted o4 (yielded (List.toArray (o0 :: o1 :: o2 :: o3 :: o4 :: r)) a.tmps) = true then Oper.wp P o4 a w K' Q else K' (a.put o4.dst undef) w) : wpAnyH P md (List.toArray (o0 :: o1 :: o2 :: o3 :: o4 :: r)) Q S (fuel + 1) listed a w :=
  wpAnyH_ready (rs := [1, 4]) hr (by simp) (AllReadyH.cons rfl h1 (AllReadyH.cons rfl h2 AllReadyH.nil))
theorem apart_grow2 {u v x : Value} {H : Nat} (h : Apart u x) (hat : ∀ b, v.ownBlock = some b → u.ownBlock = some b ∨ H ≤ b) (hx : ∀ b, x.ownBlock = some b → b < H) : Apart v x := by
  unfold Apart
  cases e : v.ownBlock with
  | none => exact .inl rfl
  | some b =>
    right
    intro e2
    rcases hat b e with h1 | h1
    · exact apart_not h h1 e2.symm
    · have := hx b e2.symm; omega
theorem OPar.oldA {w : World} {lo : Nat} {s0 s1 s2 : Value} {g : ParD} (h : OPar w lo s0 s1 s2 g) : ∀ b, (s0.ownBlock = some b ∨ s1.ownBlock = some b ∨ s2.ownBlock = some b) → lo ≤ b := by
  obtain ⟨cs, ⟨k0, k1, k2⟩, k3, k4⟩ := h
  rintro b (h | h | h)
  · exact (k0.lt b h).1
  · exact (World.ownsRow.lt k1 b h).1
  · exact (k3.lt b h).1
theorem OPar.ofArn {S : Nat → Prop} {W w : World} {lo : Nat} {s0 s1 u : Value} {z : ArD} {ys : List Int} (h : OArn W lo s0 s1 z) (hlo : lo ≤ W.heap.size) (hc : Chg S W w) (hS : ∀ b, S b → b < lo) (hu : OI 2 w W.heap.size u ys) : OPar w lo s0 s1 u (z.1, z.2, ys) := by
  obtain ⟨cs, ha, hd⟩ := h
  obtain ⟨h0, h1, h2⟩ := ha
  refine ⟨cs, OAr.chg ⟨h0, h1, h2⟩ hc hS, hu.more hlo, Dis.cons (Dis.cons hd.tail fun i hi => ?_) fun i hi => ?_⟩
  · exact (apart_sep (fun b hb => (h2.lt i hi b hb).2) (fun b hb => (hu.lt b hb).1)).symm
  · cases i with
    | zero => exact apart_sep (fun b hb => (h0.lt b hb).2) (fun b hb => (hu.lt b hb).1)
    | succ j => exact hd.head (i := j) (by simpa using hi)
theorem OPar.put0 {w w' : World} {lo : Nat} {s0 s1 u t0 : Value} {g : ParD} {xs : List Int} (h : OPar w lo s0 s1 u g) (hc : Chg (fun b => s0.ownBlock = some b) w w') (h0 : OI 2 w' lo t0 xs)
    (hat : ∀ b, t0.ownBlock = some b → s0.ownBlock = some b ∨ w.heap.size ≤ b) : OPar w' lo t0 s1 u (xs, g.2.1, g.2.2) := by
  obtain ⟨cs, ⟨k0, k1, k2⟩, k3, hd⟩ := h
  have d0u : Apart s0 u := hd 0 1 (by simp) (by simp) (by omega)
  have d0c : ∀ i, i < cs.length → Apart s0 (gv cs i) := fun i hi => hd.skip.head hi
  refine ⟨cs, ⟨h0, row_chg k1 hc (fun b hb hs => own_ne k0 k1 (by decide) b hs hb), fun i hi => (k2 i hi).chg hc (fun b hb hs => apart_not (d0c i hi) hs hb)⟩, k3.chg hc (fun b hb hs => apart_not d0u hs hb), Dis.cons hd.tail fun i hi => ?_⟩
  cases i with
  | zero => exact apart_grow2 d0u hat (fun b hb => (k3.lt b hb).2)
  | succ j => exact apart_grow2 (d0c j (by simpa using hi)) hat (fun b hb => (k2.lt j (by simpa using hi) b hb).2)
theorem wp_pushU {o : Oper} {a : Act} {K : Act → World → Prop} {Q : Exit → Act → World → Prop} (s x : Operand)
    (ho : o.op = .call { callee := .builtin .append, args := #[s, x], argTypes := #[28, 28] })
    (w : World) (lo : Nat) (s0 s1 u : Value) (g : ParD) (hs : a.eval s = s1) (hx : a.eval x = .slice (some ⟨w.heap.size, 0, none⟩) 1 1)
    (hlo : lo ≤ w.heap.size) (hown : OPar w lo s0 s1 u g) (hn : g.2.1.length ≤ 4194304)
    (h : ∀ t1 w', OArn w' lo s0 t1 (g.1, g.2.1 ++ [g.2.2]) → Below lo w w' → Chg (fun b => s1.ownBlock = some b) w w' → (∀ b, t1.ownBlock = some b → s1.ownBlock = some b ∨ w.heap.size ≤ b) → K (a.put o.dst t1) w') : o.wp Tryz.prog a (w.alloc (.cells #[u] 27)) K Q := by
  obtain ⟨i1, hi1, hy0, hy1, hy2⟩ := info_parts infoII
  obtain ⟨cs, ⟨h0, h1, h2⟩, hu, hd⟩ := hown
  obtain ⟨Au, cu, rfl⟩ := hu.form
  have hba : Below w.heap.size w (w.alloc (.cells #[.slice Au g.2.2.length cu] 27)) := below_alloc (Nat.le_refl _) (Below.refl _ _)
  have k0 := h0.below hba
  have k1 := row_below h1 hba
  have k2 := h2.below hba
  have ku := hu.below hba
  have d0u : Apart s0 (.slice Au g.2.2.length cu) := hd 0 1 (by simp) (by simp) (by omega)
  have d0c : ∀ i, i < cs.length → Apart s0 (gv cs i) := fun i hi => hd.skip.head hi
  have duc : ∀ i, i < cs.length → Apart (.slice Au g.2.2.length cu) (gv cs i) := fun i hi => hd.tail.head hi
  have hsz : lo ≤ (w.alloc (.cells #[.slice Au g.2.2.length cu] 27)).heap.size := by simp; omega
  refine wp_append_lies _ s x 28 ho lo 27 i1 (.slice none 0 0) 1 24 Tryz.underlying28 hi1 hy0 hy1 hy2 rfl (by decide) s1 g.2.1.length cs hs k1 ⟨w.heap.size, 0, none⟩ 1 1 [.slice Au g.2.2.length cu] hx rfl
    (push_news ((Box.new w 27 #[.slice Au g.2.2.length cu]).cell 0)) (by simp [Value.oneCell']) (by decide) (by unfold maxLen; omega) (by omega) hsz _ rfl ?_
  intro gg cap w' r hg hat hlt
  have hc := Chg.of_grown hg
  have hc' : Chg (fun b => s1.ownBlock = some b) w w' := ((Chg.refl (fun _ => False) w).alloc _).trans hc (fun _ h => h.elim) (fun _ h => h)
  have n0 := k0.chg hc (fun b hb hs => own_ne k0 k1 (by decide) b hb hs)
  have n2 : OL 2 w' lo cs (gl g.2.1) := fun i hi => (k2 i hi).chg hc (fun b hb hs => own_ne (k2 i hi) k1 (by decide) b hb hs)
  have nu := ku.chg hc (fun b hb hs => own_ne ku k1 (by decide) b hb hs)
  refine h _ w' ⟨cs ++ [.slice Au g.2.2.length cu], ⟨n0, ?_, n2.app nu (by have := row_len k1; omega)⟩, ?_⟩ ((hba.mono hlo).trans (hc.below hsz (fun b hb => (World.ownsRow.lt k1 b hb).1))) hc' ?_
  · simpa using r
  · refine Dis.cons (hd.tail.tail.app (fun i hi => (duc i hi).symm)) (fun i hi => ?_)
    rw [List.length_append, List.length_singleton] at hi
    by_cases e : i < cs.length
    · rw [gv_app_lt e]; exact d0c i e
    · obtain rfl : i = cs.length := by omega
      rw [gv_app_eq]
      exact d0u
  · intro b hb
    simp [Value.ownBlock] at hb
    subst hb
    rcases hat with h | h
    · exact .inl h
    · right; simp at h; omega
theorem wpList_pushU {ops : Array Oper} {rest : List Oper} {o : Oper} {a : Act} {Q : Exit → Act → World → Prop} (hgd : o.guard = none) (s x : Operand)
    (ho : o.op = .call { callee := .builtin .append, args := #[s, x], argTypes := #[28, 28] })
    (w : World) (lo : Nat) (s0 s1 u : Value) (g : ParD) (hs : a.eval s = s1) (hx : a.eval x = .slice (some ⟨w.heap.size, 0, none⟩) 1 1)
    (hlo : lo ≤ w.heap.size) (hown : OPar w lo s0 s1 u g) (hn : g.2.1.length ≤ 4194304)
    (h : ∀ t1 w', OArn w' lo s0 t1 (g.1, g.2.1 ++ [g.2.2]) → Below lo w w' → Chg (fun b => s1.ownBlock = some b) w w' → (∀ b, t1.ownBlock = some b → s1.ownBlock = some b ∨ w.heap.size ≤ b) → wpList Tryz.prog ops Q rest (a.put o.dst t1) w') : wpList Tryz.prog ops Q (o :: rest) a (w.alloc (.cells #[u] 27)) :=
  wpList_plain hgd fun _ hK => wp_pushU s x ho w lo s0 s1 u g hs hx hlo hown hn fun t1 w' h1 h2 h3 h4 => hK _ _ (h t1 w' h1 h2 h3 h4)

/-- an arena by dice, as far as vertex k -/
def arUp (n : Int) (z : ArD) (k : Nat) : Prop := z.1.length = k ∧ z.2.length = k ∧ ∀ v, v < k → (0 ≤ gi z.1 v ∧ gi z.1 v ≤ 1) ∧ 1 ≤ (gl z.2 v).length ∧ setB (gl z.2 v) n = true
theorem arUp_zero (n : Int) : arUp n ([], []) 0 := ⟨rfl, rfl, fun v hv => absurd hv (by omega)⟩
theorem arUp_succ {n x : Int} {z : ArD} {k : Nat} {ys : List Int} (h : arUp n z k) (hx : 0 ≤ x ∧ x < 2) (hy : 1 ≤ ys.length) (hs : setB ys n = true) : arUp n (z.1 ++ [x], z.2 ++ [ys]) (k + 1) := by
  obtain ⟨h1, h2, h3⟩ := h
  refine ⟨by rw [List.length_append, h1]; rfl, by rw [List.length_append, h2]; rfl, fun v hv => ?_⟩
  by_cases e : v < k
  · show (0 ≤ gi (z.1 ++ [x]) v ∧ gi (z.1 ++ [x]) v ≤ 1) ∧ 1 ≤ (gl (z.2 ++ [ys]) v).length ∧ setB (gl (z.2 ++ [ys]) v) n = true
    rw [gi_app_lt (by omega)]
    rw [show gl (z.2 ++ [ys]) v = gl z.2 v by simp [gl, List.getElem?_append_left (show v < z.2.length by omega)]]
    exact h3 v e
  · obtain rfl : v = k := by omega
    show (0 ≤ gi (z.1 ++ [x]) v ∧ gi (z.1 ++ [x]) v ≤ 1) ∧ 1 ≤ (gl (z.2 ++ [ys]) v).length ∧ setB (gl (z.2 ++ [ys]) v) n = true
    rw [show gi (z.1 ++ [x]) v = x by rw [← h1]; exact gi_app_eq]
    rw [show gl (z.2 ++ [ys]) v = ys by rw [← h2]; simp [gl]]
    exact ⟨⟨hx.1, by omega⟩, hy, hs⟩
theorem set_short {xs : List Int} {n : Nat} (h : setB xs (n : Int) = true) : xs.length ≤ n := by have := set_len h (by omega); omega
theorem arUp_ok {n : Nat} {z : ArD} (h : arUp (n : Int) z n) (h1 : 1 ≤ n) (h2 : n ≤ 16) : arB z.1 z.2 = true := by
  obtain ⟨k1, k2, k3⟩ := h
  refine arB_of k1 ⟨h1, by omega, k2⟩ fun v hv => vOk_iff.2 ?_
  obtain ⟨m1, m2, m3⟩ := k3 v hv
  rw [k1]
  have := set_short m3
  exact ⟨m1, ⟨m2, by omega⟩, m3⟩
theorem OB.chg {E : TypeId} {S : Nat → Prop} {w w' : World} {lo : Nat} {v : Value} {xs : List Bool} (h : OB E w lo v xs) (hc : Chg S w w') (hS : ∀ b, v.ownBlock = some b → ¬ S b) : OB E w' lo v xs := row_chg h hc hS
end Go.Proofs.YtkhkdnmpbfmmeaaGreatDoor
