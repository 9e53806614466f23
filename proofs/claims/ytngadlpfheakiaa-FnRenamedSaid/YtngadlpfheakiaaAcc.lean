/- Lists that a loop builds beside others: frames for accumulators. -/
import Derived.Test.YtngadlpfheakiaaUse
import Derived.Test.YtngadlpfheakiaaPick
namespace Go.Proofs.Ytngadlpfheakiaa
open Go.RowKit

theorem Chg.push {S T : Nat → Prop} {a b c : World} (h : Chg S a b) (k : Chg T b c) (hT : ∀ x, T x → S x ∨ a.heap.size ≤ x) : Chg S a c :=
  ⟨k.os.trans h.os, k.tape.trans h.tape, k.output.trans h.output, Nat.le_trans h.size k.size, fun x hx hu =>
    (k.block x (Nat.lt_of_lt_of_le hx h.size) (fun ht => (hT x ht).elim hu (by omega))).trans (h.block x hx hu)⟩
theorem Chg.drewN {S : Nat → Prop} {a b : World} (h : Chg S a b) (q : Nat) : Chg S a (b.drewN q) := ⟨h.os, h.tape, h.output, h.size, h.block⟩
theorem Chg.then_below {S : Nat → Prop} {a b c : World} {B : Nat} (h : Chg S a b) (k : Below B b c) (hB : a.heap.size ≤ B) : Chg S a c :=
  ⟨k.os.trans h.os, k.tape.trans h.tape, k.output.trans h.output, Nat.le_trans h.size k.size, fun x hx hu => (k.block x (by omega)).trans (h.block x hx hu)⟩
theorem RI.one1 {w : World} {b : Nat} {x : Int} (h : w.cell? ⟨b, 0, none⟩ = some (.int .i64 x)) : RI w (some ⟨b, 0, none⟩) 1 1 [x] :=
  ⟨rfl, ⟨by omega, by omega⟩, fun i hi => ⟨b, 0, rfl, by
    obtain rfl : i = 0 := by omega
    simpa [gi] using h⟩⟩
/-- the places whose number is not negative -/
def wonUp (L : List Int) (k : Nat) : List Int := pick (fun i => decide (0 ≤ gi L i)) (fun i => (i : Int)) k
theorem OI.off {E : TypeId} {w : World} {lo g n c : Nat} {xs : List Int} (h : OI E w lo (.slice (some ⟨g, 0, none⟩) n c) xs) {p : Addr} (hp : g ≠ p.block) (u : Value) : OI E (w.setCell p u) lo (.slice (some ⟨g, 0, none⟩) n c) xs :=
  h.chg (Chg.set p u) fun b hb hs => hp (by have hb' : some g = some b := hb; injection hb' with e; exact e.trans hs)
theorem OB.off {E : TypeId} {w : World} {lo g n c : Nat} {xs : List Bool} (h : OB E w lo (.slice (some ⟨g, 0, none⟩) n c) xs) {p : Addr} (hp : g ≠ p.block) (u : Value) : OB E (w.setCell p u) lo (.slice (some ⟨g, 0, none⟩) n c) xs :=
  row_chg h (Chg.set p u) fun b hb hs => hp (by have hb' : some g = some b := hb; injection hb' with e; exact e.trans hs)
theorem OI.form2 {E : TypeId} {w : World} {lo : Nat} {v : Value} {xs : List Int} (h : OI E w lo v xs) (h0 : 0 < xs.length) : ∃ g c, v = .slice (some ⟨g, 0, none⟩) xs.length c := by
  rcases h.2 with ⟨_, hn⟩ | ⟨g, cap, cur, rfl, _⟩
  · omega
  · exact ⟨_, _, rfl⟩
/-- how many are negative -/
def negs (L : List Int) : Nat := L.countP fun x => decide (x < 0)
theorem negs_le (L : List Int) : negs L ≤ L.length := List.countP_le_length
theorem negs_set {L : List Int} {k : Nat} {x : Int} (hk : k < L.length) (h : gi L k < 0) (hx : 0 ≤ x) : negs (L.set k x) < negs L := by
  rw [gi_get hk] at h
  unfold negs
  rw [List.countP_set hk]
  have : 0 < L.countP fun x => decide (x < 0) := List.countP_pos_iff.2 ⟨_, List.getElem_mem hk, by simpa using h⟩
  have h2 : ¬ x < 0 := by omega
  simp [h, h2]
  omega
end Go.Proofs.Ytngadlpfheakiaa
