/- The dice of chapter 14: what they throw; l14Under; the program's closure. -/
import Derived.Test.YtefjhkcafcchlaaPut
import Derived.Test.YtefjhkcafcchlaaUse
import Derived.IntWalk
namespace Go.Proofs.Ytefjhkcafcchlaa
open Go.RowKit

/-- the next state; the state after k throws; the first k throws below n -/
def nxD (s : Int) : Int := (48271 * s + 11) % 999999937
def stD (s : Int) : Nat → Int
  | 0 => s
  | k + 1 => nxD (stD s k)
def inD (s : Int) : Prop := 0 ≤ s ∧ s < 999999937
theorem nxD_in (s : Int) : inD (nxD s) := ⟨Int.emod_nonneg _ (by omega), Int.emod_lt_of_pos _ (by omega)⟩
theorem stD_in {s : Int} (h : inD s) : ∀ k, inD (stD s k)
  | 0 => h
  | k + 1 => nxD_in _
def drD (s n : Int) (k : Nat) : List Int := (List.range k).map fun i => stD s (i + 1) % n
theorem drD_succ (s n : Int) (k : Nat) : drD s n (k + 1) = drD s n k ++ [stD s (k + 1) % n] := by
  unfold drD
  rw [List.range_succ, List.map_append]; rfl
theorem drD_len (s n : Int) (k : Nat) : (drD s n k).length = k := by simp [drD]
/-- the numbers put into a set, one after the other -/
def putsL (xs : List Int) : List Int := xs.foldl putL []
theorem putsL_snoc (xs : List Int) (x : Int) : putsL (xs ++ [x]) = putL (putsL xs) x := by unfold putsL; simp
theorem putsL_len (xs : List Int) : (putsL xs).length ≤ xs.length := by
  suffices h : ∀ n (xs : List Int), xs.length = n → (putsL xs).length ≤ n from h _ xs rfl
  intro n
  induction n with
  | zero => intro xs h; rw [List.eq_nil_of_length_eq_zero h]; simp [putsL]
  | succ n ih =>
    intro xs h
    have e : xs = xs.take n ++ [gi xs n] := by rw [← take_gi (by omega), List.take_of_length_le (by omega)]
    rw [e, putsL_snoc]
    have h1 := putL_len (putsL (xs.take n)) (gi xs n)
    have h2 := ih (xs.take n) (by rw [List.length_take]; omega)
    omega
theorem putsL_asc (xs : List Int) : (putsL xs).Pairwise (· < ·) ∧ ∀ y, y ∈ putsL xs ↔ y ∈ xs := by
  suffices h : ∀ n (xs : List Int), xs.length = n → (putsL xs).Pairwise (· < ·) ∧ ∀ y, y ∈ putsL xs ↔ y ∈ xs from h _ xs rfl
  intro n
  induction n with
  | zero => intro xs h; rw [List.eq_nil_of_length_eq_zero h]; simp [putsL]
  | succ n ih =>
    intro xs h
    have e : xs = xs.take n ++ [gi xs n] := by rw [← take_gi (by omega), List.take_of_length_le (by omega)]
    obtain ⟨i1, i2⟩ := ih (xs.take n) (by rw [List.length_take]; omega)
    rw [e, putsL_snoc]
    obtain ⟨p1, p2⟩ := putL_asc (x := gi xs n) i1
    refine ⟨p1, fun y => ?_⟩
    rw [p2, i2, List.mem_append, List.mem_singleton]
    exact or_comm

/-- a vertex's owner, priority, number of throws, and the state behind it -/
def cntD (s o : Int) : Nat := (stD s 3 % o + 1).toNat
theorem cntD_eq {s o : Int} (ho : 1 ≤ o) : stD s 3 % o + 1 = (cntD s o : Int) := by
  have h1 := Int.emod_nonneg (stD s 3) (show o ≠ 0 by omega)
  unfold cntD
  omega
def diceUp (s0 n p o : Int) : Nat → ParD × Int
  | 0 => (([], [], []), s0)
  | k + 1 => (addV (diceUp s0 n p o k).1 (stD (diceUp s0 n p o k).2 1 % 2) (stD (diceUp s0 n p o k).2 2 % p) (putsL (drD (stD (diceUp s0 n p o k).2 3) n (cntD (diceUp s0 n p o k).2 o))), stD (stD (diceUp s0 n p o k).2 3) (cntD (diceUp s0 n p o k).2 o))
theorem diceUp_in {s0 n p o : Int} (h : inD s0) : ∀ k, inD (diceUp s0 n p o k).2
  | 0 => h
  | k + 1 => stD_in (stD_in (diceUp_in h k) 3) _
theorem diceUp_len (s0 n p o : Int) (k : Nat) : (diceUp s0 n p o k).1.1.length = k ∧ (diceUp s0 n p o k).1.2.1.length = k ∧ (diceUp s0 n p o k).1.2.2.length = k := by
  induction k with
  | zero => simp [diceUp]
  | succ k ih => rw [diceUp]; unfold addV; simp; omega
theorem diceUp_small {s0 n p o : Int} {k : Nat} (h : k ≤ 256) : small (diceUp s0 n p o k).1 := by
  have := diceUp_len s0 n p o k
  unfold small
  omega
theorem cntD_le {s o : Int} (ho : 1 ≤ o ∧ o ≤ 16) : 1 ≤ cntD s o ∧ cntD s o ≤ 16 := by
  have h1 := Int.emod_nonneg (stD s 3) (show o ≠ 0 by omega)
  have h2 := Int.emod_lt_of_pos (stD s 3) (show 0 < o by omega)
  unfold cntD
  omega
theorem diceUp_tot {s0 n p o : Int} (ho : 1 ≤ o ∧ o ≤ 16) (k : Nat) : tot (diceUp s0 n p o k).1.2.1 ≤ 16 * k := by
  induction k with
  | zero => simp [diceUp, tot]
  | succ k ih =>
    rw [diceUp]
    unfold addV
    have h1 : ∀ (a : List (List Int)) (b : List Int), tot (a ++ [b]) = tot a + b.length := fun a b => by unfold tot; simp
    show tot ((diceUp s0 n p o k).1.2.1 ++ [_]) ≤ _
    rw [h1]
    have h2 := putsL_len (drD (stD (diceUp s0 n p o k).2 3) n (cntD (diceUp s0 n p o k).2 o))
    rw [drD_len] at h2
    have := (cntD_le (s := (diceUp s0 n p o k).2) ho).2
    omega

/-- the first state -/
def seedD (s : Int) : Int := (s.tmod 999999937) % 999999937
theorem seed_tmod (s : Int) : -999999937 < s.tmod 999999937 ∧ s.tmod 999999937 < 999999937 := by
  constructor
  · rcases Int.le_total 0 s with h | h
    · have := Int.tmod_nonneg 999999937 h; omega
    · have e : s = -(-s) := by omega
      rw [e, Int.neg_tmod]
      have := Int.tmod_lt_of_pos (-s) (show (0 : Int) < 999999937 by omega)
      omega
  · exact Int.tmod_lt_of_pos s (by omega)
theorem seed_in (s : Int) : inD (seedD s) := ⟨Int.emod_nonneg _ (by omega), Int.emod_lt_of_pos _ (by omega)⟩

theorem chg_box {w : World} {b : Nat} {t : TypeId} {x : Value} (h : Box w b t #[x]) (y : Value) : Box (w.setCell ⟨b, 0, none⟩ y) b t #[y] := h.set_ 0 y
theorem Box.b0 {w : World} {b : Nat} {t : TypeId} {x0 : Value} (h : Box w b t #[x0]) : w.cell? ⟨b, 0, none⟩ = some x0 := h.cell 0
set_option maxRecDepth 100000 in
set_option maxHeartbeats 400000 in
theorem l14Under (w : World) (b : Nat) (s k : Int) (hb : Box w b 120 #[.int .i64 s]) (hs : inD s) (hk1 : 1 ≤ k) (hk2 : k ≤ 4096) :
    Calls Try.prog 120 #[.pointer (some ⟨b, 0, none⟩), .int .i64 k] w fun e w' => e = .returned (.int .i64 (nxD s % k)) ∧ Box w' b 120 #[.int .i64 (nxD s)] ∧ Chg (fun y => y = b) w w' := by
  have c0 := hb.b0
  have f0 := hb.hot 0
  have h0 : 0 ≤ s := hs.1
  have h1 : s < 999999937 := hs.2
  have hn := nxD_in s
  have m0 : 0 ≤ (48271 * s + 11) % 999999937 := hn.1
  have m1 : (48271 * s + 11) % 999999937 < 999999937 := hn.2
  have hkz : ¬ k = 0 := by omega
  have fin : Box (w.setCell ⟨b, 0, none⟩ (.int .i64 ((48271 * s + 11) % 999999937))) b 120 #[.int .i64 (nxD s)] := chg_box hb _
  have hc : Chg (fun y => y = b) w (w.setCell ⟨b, 0, none⟩ (.int .i64 ((48271 * s + 11) % 999999937))) := Chg.set ⟨b, 0, none⟩ _
  go_enter Try.func120, Try.ntmps120
  go_wp2
  go_ret
  exact ⟨rfl, fin, hc⟩

set_option maxRecDepth 100000 in
set_option maxHeartbeats 400000 in
theorem drawFn (w : World) (b : Nat) (s k : Int) (hb : Box w b 2 #[.int .i64 s]) (hs : inD s) (hk1 : 1 ≤ k) (hk2 : k ≤ 4096) :
    Calls Try.prog 111 #[.int .i64 k, .pointer (some ⟨b, 0, none⟩)] w fun e w' => e = .returned (.int .i64 (nxD s % k)) ∧ Box w' b 2 #[.int .i64 (nxD s)] ∧ Chg (fun y => y = b) w w' := by
  have c0 := hb.b0
  have f0 := hb.hot 0
  have h0 : 0 ≤ s := hs.1
  have h1 : s < 999999937 := hs.2
  have hn := nxD_in s
  have m0 : 0 ≤ (48271 * s + 11) % 999999937 := hn.1
  have m1 : (48271 * s + 11) % 999999937 < 999999937 := hn.2
  have hkz : ¬ k = 0 := by omega
  have fin : Box (w.setCell ⟨b, 0, none⟩ (.int .i64 ((48271 * s + 11) % 999999937))) b 2 #[.int .i64 (nxD s)] := chg_box hb _
  have hc : Chg (fun y => y = b) w (w.setCell ⟨b, 0, none⟩ (.int .i64 ((48271 * s + 11) % 999999937))) := Chg.set ⟨b, 0, none⟩ _
  go_enter Try.func111, Try.ntmps111
  go_wp2
  go_ret
  exact ⟨rfl, fin, hc⟩
theorem drawFn_enter (args : Array Value) (w : World) : (callFunc 111 args).run Try.prog w = .ok (.enter 111 args) w := by kernel_rfl
end Go.Proofs.Ytefjhkcafcchlaa
