/- The lines of a text: l13Lines, linesOf: contracts. -/
import Derived.Test.YtkhkdnmpbfmmeaaDoorTextP
import Derived.Test.YtkhkdnmpbfmmeaaDoorAnsT
import Derived.StillTailTactics
import Derived.Test.YtkhkdnmpbfmmeaaDoorApp
namespace Go.Proofs.YtkhkdnmpbfmmeaaDoor
open Go.RowKit

/-- how many whole lines; whether more follows the last of them -/
def anN (l : List UInt8) : Nat := (spl 10 l).length - 1
def mor (l : List UInt8) : Bool := !(gx (spl 10 l) (anN l)).isEmpty
theorem anN_len (l : List UInt8) : (spl 10 l).length = anN l + 1 := by
  have := List.length_pos_iff.2 (spl_ne 10 l)
  unfold anN
  omega
theorem spl_piece {c : UInt8} {l : List UInt8} {x : List UInt8} (hx : x ∈ spl c l) : x.length ≤ l.length := by
  have h := spl_length c _ l (Nat.le_refl _)
  have : ∀ (xs : List (List UInt8)), x ∈ xs → x.length + 1 ≤ (xs.map (·.length + 1)).sum := by
    intro xs
    induction xs with
    | nil => intro h; cases h
    | cons y ys ih =>
      intro h
      rw [List.map_cons, List.sum_cons]
      rcases List.mem_cons.1 h with rfl | h
      · omega
      · have := ih h; omega
  have := this _ hx
  omega
theorem OS.pop {w : World} {lo n c : Nat} {A : Option Addr} {xs : List ByteArray} (h : OS w lo (.slice A (n + 1) c) xs) : OS w lo (.slice A n c) (xs.take n) := by
  obtain ⟨h1, h2⟩ := h
  rcases h2 with ⟨e, _⟩ | ⟨g', cap, cur, e, hb, hg, hn, hc, hs, ht⟩
  · injection e with e1 e2; omega
  · injection e with e1 e2 e3
    subst e3
    have hl : (xs.take n).length = n := by rw [List.length_take]; omega
    refine ⟨by simp, .inr ⟨g', c, cur, by rw [hl, e1], hb, hg, by omega, hc, hs, ?_⟩⟩
    rw [hl, List.map_take, ← ht, List.take_take, Nat.min_eq_left (by omega)]
    simp
theorem last_empty (s : ByteArray) : (gt (splT 10 s) (anN s.data.toList)).toList.isEmpty = !mor s.data.toList := by
  unfold mor
  rw [Bool.not_not, Lib.toList_data, gtd]
theorem mor_nil : mor [] = false := by decide
theorem anN_nil : anN [] = 0 := by decide
theorem linesLen (s : ByteArray) : (splT 10 s).length = anN s.data.toList + 1 := by rw [splT_len, anN_len]

set_option maxRecDepth 100000 in
theorem specLines (s : ByteArray) (w : World) (B : Nat) (hB : B ≤ w.heap.size) (hs : s.size ≤ 4000000) :
    Calls Tryd.prog 67 #[.string s] w fun e w' => ∃ v, e = .returned (.tuple #[v, .bool (mor s.data.toList)]) ∧ OS w' B v ((splT 10 s).take (anN s.data.toList)) ∧ Below B w w' := by
  have HL := Lib.hid (linesLen s)
  have HE := last_empty s
  have HN := Lib.hid (show (anN s.data.toList : Int) + 1 - 1 = anN s.data.toList by omega)
  generalize anN s.data.toList = n at *
  generalize mor s.data.toList = b at *
  go_enter Tryd.func67, Tryd.ntmps67
  go_wp2_with fail
  refine (l1Split _ 10 10 rfl _ _ (Nat.le_refl _) hs).mono ?_; rintro e w1 ⟨v, rfl, ho1, hb1⟩
  obtain ⟨A1, c1, rfl⟩ := ho1.form
  rw [HL.out] at ho1 ⊢
  have hR := ho1.reads
  have hcap := hR.cap
  have htop := hR.top
  have hp := ho1.pop
  have hb2 := hb1.mono hB
  obtain ⟨ba, oa, rfl, ka⟩ := hR.at_ (show n < n + 1 by omega)
  have e1 : IntKind.i64.wrap ((n : Int) + 1 - 1) = (n : Int) := by rw [HN.out]; exact IntWalk.i64_in _ (by omega)
  have i1 : (n : Int) ≤ (c1 : Int) := by omega
  have i2 : (0 : Int) ≤ (n : Int) := by omega
  have i3 : (n : Int) < (n : Int) + 1 := by omega
  have i4 : n ≤ c1 := by omega
  go_wp2_with fail
  go_quiet (fail)
  go_wp2
  refine bodyPost_ret (v := .tuple #[.slice (some ⟨ba, oa, none⟩) n c1, .bool b]) (by simp [results, Tryd.results67, go_sem]) rfl ?_
  exact ⟨_, rfl, OS.more (w := w1.drewN nq) hp hB, below_drewN hb2 nq⟩

/-- what impl.linesOf gives: the whole lines, or all pieces -/
def impLn (s : ByteArray) : List ByteArray := if mor s.data.toList then splT 10 s else (splT 10 s).take (anN s.data.toList)
set_option maxRecDepth 100000 in
theorem implLines (s : ByteArray) (w : World) (B : Nat) (hB : B ≤ w.heap.size) (hM : Max w) (hs : s.size ≤ 4000000) :
    Calls Tryd.prog 68 #[.string s] w fun e w' => ∃ v, e = .returned (.tuple #[v, .bool (!mor s.data.toList)]) ∧ OS w' B v (impLn s) ∧ Below B w w' := by
  have HL := Lib.hid (linesLen s)
  have HE := last_empty s
  have HI : Hid (impLn s = if mor s.data.toList then splT 10 s else (splT 10 s).take (anN s.data.toList)) := Lib.hid rfl
  by_cases h0 : s.size < 1
  · have hs0 : s.toList.isEmpty = true := by rw [empty_of h0, Lib.toList_data]; rfl
    have E := Lib.hid (show s.data.toList = [] by rw [empty_of h0])
    clear h0 HE HL
    go_enter Tryd.func68, Tryd.ntmps68
    go_wp2
    refine bodyPost_ret (v := .tuple #[.slice none 0 0, .bool true]) (by simp [results, Tryd.results68, go_sem]) rfl ?_
    refine ⟨_, by rw [E.out, mor_nil]; rfl, ?_, Below.refl _ _⟩
    rw [HI.out, E.out, mor_nil, anN_nil]
    exact OS.nil _ _
  have hs0 : s.toList.isEmpty = false := filled_of h0
  clear h0
  generalize anN s.data.toList = n at *
  go_enter Tryd.func68, Tryd.ntmps68
  go_wp2_with fail
  refine (stringsSplit s 10 _ hM hs).mono ?_; rintro e w1 ⟨v, rfl, ho1, hb1⟩
  obtain ⟨A1, c1, rfl⟩ := ho1.form
  rw [HL.out] at ho1 ⊢
  have hR := ho1.reads
  have hcap := hR.cap
  have htop := hR.top
  have hp := ho1.pop
  have hb2 := hb1.mono hB
  obtain ⟨ba, oa, rfl, ka⟩ := hR.at_ (show n < n + 1 by omega)
  have e1 : IntKind.i64.wrap ((n : Int) + 1 - 1) = (n : Int) := by rw [show (n : Int) + 1 - 1 = n by omega]; exact IntWalk.i64_in _ (by omega)
  have i1 : (n : Int) ≤ (c1 : Int) := by omega
  have i2 : (0 : Int) ≤ (n : Int) := by omega
  have i3 : (n : Int) < (n : Int) + 1 := by omega
  have i4 : n ≤ c1 := by omega
  cases hm : mor s.data.toList with
  | true =>
    have HM := Lib.hid hm
    rw [hm] at HE HI
    replace HE : (gt (splT 10 s) n).toList.isEmpty = false := HE
    clear hm
    go_wp2
    refine bodyPost_ret (v := .tuple #[.slice (some ⟨ba, oa, none⟩) (n + 1) c1, .bool false]) (by simp [results, Tryd.results68, go_sem]) rfl ?_
    exact ⟨_, by rw [HM.out]; rfl, by rw [HI.out, if_pos trivial]; exact ho1.more hB, hb2⟩
  | false =>
    have HM := Lib.hid hm
    rw [hm] at HE HI
    replace HE : (gt (splT 10 s) n).toList.isEmpty = true := HE
    clear hm
    go_wp2
    refine bodyPost_ret (v := .tuple #[.slice (some ⟨ba, oa, none⟩) n c1, .bool true]) (by simp [results, Tryd.results68, go_sem]) rfl ?_
    exact ⟨_, by rw [HM.out]; rfl, by rw [HI.out, if_neg (by decide)]; exact hp.more hB, hb2⟩
/-- an append behind stores: the heap's size as an equation of its own -/
theorem wpList_pushHT {ops : Array Oper} {rest : List Oper} {o : Oper} {a : Act} {Q : Exit → Act → World → Prop} (hgd : o.guard = none) (s x : Operand)
    (ho : o.op = .call { callee := .builtin .append, args := #[s, x], argTypes := #[22, 22] })
    (w : World) (H : Nat) (hH : w.heap.size = H) (lo : Nat) (v : Value) (xs : List Int) (hs : a.eval s = v) (hown : OI 2 w lo v xs) (y : Int) (hx : a.eval x = .slice (some ⟨H, 0, none⟩) 1 1)
    (hn : xs.length ≤ 4194304) (hlo : lo ≤ H)
    (h : ∀ v' w', OI 2 w' lo v' (xs ++ [y]) → Below lo w w' → Chg (fun z => v.ownBlock = some z) w w' → (∀ b, v'.ownBlock = some b → v.ownBlock = some b ∨ w.heap.size ≤ b) →
      wpList Tryd.prog ops Q rest (a.put o.dst v') w') : wpList Tryd.prog ops Q (o :: rest) a (w.alloc (.cells #[.int .i64 y] 2)) := by
  subst hH
  exact wpList_pushI hgd s x ho w lo v xs hs hown y hx hn hlo h
theorem gt_impLn {s : ByteArray} {k : Nat} (hk : k < (impLn s).length) : (gt (impLn s) k).data.toList = gx (spl 10 s.data.toList) k := by
  unfold impLn at hk ⊢
  split
  · exact gtd 10 s k
  · rename_i h
    rw [if_neg h, List.length_take] at hk
    rw [gt_take (by omega)]
    exact gtd 10 s k
theorem impLn_len (s : ByteArray) : (impLn s).length = anN s.data.toList + (if mor s.data.toList then 1 else 0) := by
  unfold impLn
  split
  · rw [linesLen]
  · rw [List.length_take, linesLen]; omega
theorem line_small {s : ByteArray} {k : Nat} : (gt (splT 10 s) k).size ≤ s.size := by
  rw [Lib.size_eq, Lib.size_eq, gtd]
  by_cases h : k < (spl 10 s.data.toList).length
  · exact spl_piece (gx_mem h)
  · unfold gx
    rw [List.getD_eq_getElem?_getD, List.getElem?_eq_none (by omega)]
    simp
theorem impLn_small {s : ByteArray} {k : Nat} (hs : s.size ≤ 4000000) : (gt (impLn s) k).size ≤ 4000000 := by
  unfold impLn
  split
  · exact Nat.le_trans line_small hs
  · by_cases hk : k < anN s.data.toList
    · rw [gt_take hk]; exact Nat.le_trans line_small hs
    · unfold gt
      rw [List.getD_eq_getElem?_getD, List.getElem?_eq_none (by rw [List.length_take]; omega)]
      simp
end Go.Proofs.YtkhkdnmpbfmmeaaDoor
