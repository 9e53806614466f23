/- spec.l1Words, spec.l1Ints: contracts; append of one text. -/
import Derived.Test.YtkhkdnmpbfmmeaaDoorTxtS
import Derived.Test.YtkhkdnmpbfmmeaaDoorApp
namespace Go.Proofs.YtkhkdnmpbfmmeaaDoor
open Go.RowKit

/-- the texts joined -/
def jn (xs : List ByteArray) (sp : List UInt8) : List UInt8 := Lib.join (xs.map (·.data.toList)) sp
theorem jn_take {xs : List ByteArray} {sp : List UInt8} {k : Nat} (h : k < xs.length) :
    jn (xs.take (k + 1)) sp = (if k = 0 then [] else jn (xs.take k) sp ++ sp) ++ (gt xs k).data.toList := by
  unfold jn
  rw [List.map_take, List.map_take, join_take _ _ _ (by simpa using h), gt_get h]
  simp
theorem jn_len {xs : List ByteArray} {sp : List UInt8} (hsp : sp.length ≤ 10) : ∀ k, k ≤ xs.length → (∀ i, i < xs.length → (gt xs i).size ≤ 1000) → (jn (xs.take k) sp).length ≤ 1010 * k
  | 0, _, _ => by simp [jn, Lib.join]
  | k + 1, hk, h => by
    have ih := jn_len hsp k (by omega) h
    have hx := h k (by omega)
    rw [Lib.size_eq] at hx
    rw [jn_take (by omega)]
    by_cases e : k = 0
    · subst e
      rw [if_pos rfl]
      simp at hx ⊢
      omega
    · rw [if_neg e, List.length_append, List.length_append]
      omega

set_option maxRecDepth 100000 in
set_option maxHeartbeats 1600000 in
theorem l1Words (A : Option Addr) (n c : Nat) (xs : List ByteArray) (sp : List UInt8) (w : World) (ha : RS w A n c xs) (hx : ∀ i, i < xs.length → (gt xs i).size ≤ 1000) (hsp : sp.length ≤ 10) (hn : n ≤ 1000) :
    Calls Tryd.prog 54 #[.slice A n c, .string (tx sp)] w fun e w' => e = .returned (.string (tx (jn xs sp))) ∧ Qt w w' := by
  have b1 := ha.cap; have b2 := ha.top
  have HL := Lib.hid (fun k (hk : k ≤ n) => jn_len (sp := sp) hsp k (by rw [ha.len]; exact hk) hx)
  have HX := Lib.hid hx
  have HS := Lib.hid hsp
  clear hx hsp
  go_enter Tryd.func54, Tryd.ntmps54
  go_wp2
  go_loop [5, 6] (fun s i => ∃ k : Nat, k ≤ n ∧ i = .int .i64 k ∧ s = .string (tx (jn (xs.take k) sp))) (fun _ i => n - (intOf i).toNat)
  case atStart => exact ⟨0, Nat.zero_le _, rfl, rfl⟩
  case round =>
    obtain ⟨k, hk, rfl, rfl⟩ := hrel
    by_cases hlt : k < n
    · obtain ⟨b, off, rfl, hc1⟩ := ha.at_ hlt
      have z1 : (tx (jn (xs.take k) sp)).size ≤ 1010 * k := by rw [tx_size]; exact HL.out k hk
      have z2 : (gt xs k).size ≤ 1000 := HX.out k (by rw [ha.len]; exact hlt)
      have z3 : (tx sp).size ≤ 10 := by rw [tx_size]; exact HS.out
      have E := Lib.hid (jn_take (sp := sp) (show k < xs.length by rw [ha.len]; exact hlt))
      have y1 : (tx (jn (xs.take k) sp)).size + (tx sp).size ≤ 9223372036854775807 := by omega
      have y2 : (tx (jn (xs.take k) sp)).size + (tx sp).size + (gt xs k).size ≤ 9223372036854775807 := by omega
      have y3 : (tx (jn (xs.take k) sp)).size + (gt xs k).size ≤ 9223372036854775807 := by omega
      have G := Lib.hid (tx_of (gt xs k))
      clear z1 z2 z3
      by_cases h0 : k = 0
      · subst h0
        rw [Nat.add_zero] at hc1
        rw [List.take_zero] at y3
        go_wp2
        go_round
        case rel => exact ⟨1, by omega, rfl, by rw [E.out, if_pos rfl, ← tx_app, G.out]; rfl⟩
        case measure => simp [intOf]; omega
      · have H0 := Lib.hid h0
        have h1 : (0 : Int) < (k : Int) := by omega
        clear h0
        go_wp2
        go_round
        case rel => exact ⟨k + 1, by omega, by go_num, by rw [E.out, if_neg H0.out, ← tx_app, ← tx_app, G.out]⟩
        case measure => simp [intOf]; omega
    · go_wp2
      go_ret
      obtain rfl : k = n := by omega
      exact ⟨by rw [List.take_of_length_le (by rw [ha.len]; exact Nat.le_refl _)]; rfl, Qt.refl _⟩

section
/-- append of one text to a row of the call's own: the literal's block lies at the world's end -/
theorem wpList_pushS {ops : Array Oper} {rest : List Oper} {o : Oper} {a : Act} {Q : Exit → Act → World → Prop} (hgd : o.guard = none) (s x : Operand)
    (ho : o.op = .call { callee := .builtin .append, args := #[s, x], argTypes := #[73, 73] })
    (w : World) (lo : Nat) (v : Value) (xs : List ByteArray) (hs : a.eval s = v) (hown : OS w lo v xs) (y : ByteArray) (hx : a.eval x = .slice (some ⟨w.heap.size, 0, none⟩) 1 1)
    (hn : xs.length ≤ 4194304) (hlo : lo ≤ w.heap.size)
    (h : ∀ v' w', OS w' lo v' (xs ++ [y]) → Below lo w w' → Chg (fun z => v.ownBlock = some z) w w' → (∀ b, v'.ownBlock = some b → v.ownBlock = some b ∨ w.heap.size ≤ b) →
      wpList Tryd.prog ops Q rest (a.put o.dst v') w') : wpList Tryd.prog ops Q (o :: rest) a (w.alloc (.cells #[.string y] 9)) := by
  obtain ⟨i0, hi0, hz0, hz1, hz2⟩ := info_parts infoS
  have hba : Below w.heap.size w (w.alloc (.cells #[.string y] 9)) := below_alloc (Nat.le_refl _) (Below.refl _ _)
  refine wpList_push _ hgd s x 73 ho lo 9 i0 (.string { data := #[] }) 16 Tryd.underlying73 hi0 hz0 hz1 hz2 rfl v xs.length (xs.map Value.string) hs (row_below hown hba) w.heap.size (.string y) hx ((Box.new w _ _).cell 0) rfl hn (by decide) (by simp; omega) ?_
  intro g c w' r hg hat hlt
  have hc := Chg.of_grown hg
  refine h _ w' (OS.app r rfl) ((hba.mono hlo).trans (hc.below (by simp; omega) (fun z hz => (hown.lt z hz).1))) ?_ ?_
  · exact ((Chg.refl (fun _ => False) w).alloc _).trans hc (fun _ h => h.elim) (fun _ h => h)
  · intro b hb
    simp [Value.ownBlock] at hb
    subst hb
    rcases hat with h | h
    · exact .inl h
    · right; simp at h; omega
end
theorem OS.empty {w : World} {B : Nat} (hB : B ≤ w.heap.size) : OS (w.alloc (.cells #[] 9)) B (.slice (some ⟨w.heap.size, 0, none⟩) 0 0) [] := World.ownsRow_lit w #[] 0 hB (by decide) rfl

def nums (us : List Int) : List ByteArray := us.map fun u => tx (Lib.decDigits u.toNat)
theorem nums_snoc {us : List Int} {k : Nat} (h : k < us.length) : nums (us.take (k + 1)) = nums (us.take k) ++ [tx (Lib.decDigits (gi us k).toNat)] := by
  unfold nums
  rw [take_gi h, List.map_append]
  rfl
theorem nums_short {us : List Int} (hu : ∀ u ∈ us, 0 ≤ u ∧ u < 1000000000) : ∀ i, i < (nums us).length → (gt (nums us) i).size ≤ 1000 := by
  intro i hi
  rw [gt_get hi]
  unfold nums at hi ⊢
  rw [List.length_map] at hi
  rw [List.getElem_map, tx_size]
  have h1 := hu us[i] (List.getElem_mem hi)
  have := dec_len9 (show us[i].toNat < 1000000000 by omega)
  omega

set_option maxRecDepth 100000 in
set_option maxHeartbeats 1600000 in
theorem l1Ints (A : Option Addr) (n c : Nat) (us : List Int) (w : World) (B : Nat) (hB : B ≤ w.heap.size) (ha : RI w A n c us) (hu : ∀ u ∈ us, 0 ≤ u ∧ u < 1000000000) (hn : n ≤ 1000) :
    Calls Tryd.prog 93 #[.slice A n c] w fun e w' => e = .returned (.string (tx (jn (nums us) [32]))) ∧ Below B w w' := by
  have b1 := ha.cap; have b2 := ha.top
  have HL := Lib.hid ha.len
  have HU := Lib.hid hu
  clear hu
  go_enter Tryd.func93, Tryd.ntmps93
  go_wp2
  go_loopw [3, 4] (fun v i wr => ∃ k : Nat, k ≤ n ∧ i = .int .i64 k ∧ OS wr w.heap.size v (nums (us.take k)) ∧ Below w.heap.size w wr) (fun _ i _ => n - (intOf i).toNat)
  case atStart => exact ⟨0, Nat.zero_le _, rfl, OS.empty (Nat.le_refl _), by repeat (first | with_reducible assumption | with_reducible exact Below.refl _ _ | with_reducible refine below_drewN ?_ _ | with_reducible refine Below.drew ?_ | with_reducible refine below_alloc (Nat.le_refl _) ?_)⟩
  case round =>
    obtain ⟨k, hk, rfl, ho, hbr⟩ := hrel
    have hsz := hbr.size
    by_cases hlt : k < n
    · obtain ⟨b, off, rfl, hc1⟩ := (ha.keep (keeps_below hbr)).at_ hlt
      have HN := Lib.hid (nums_snoc (us := us) (show k < us.length by rw [HL.out]; exact hlt))
      have H1 := HU.out (gi us k) (gi_mem (by rw [HL.out]; exact hlt))
      obtain ⟨u, hu0⟩ := Int.eq_ofNat_of_zero_le H1.1
      have H2 := Lib.hid (show u < 1000000000 by omega)
      have H3 := Lib.hid hu0
      rw [hu0] at hc1
      have hll : (nums (us.take k)).length ≤ 4194304 := by unfold nums; rw [List.length_map, List.length_take]; omega
      clear H1 hu0
      obtain ⟨Av, cv, rfl⟩ := ho.form
      go_wp2_with (first
        | (go_at_call 77; refine (l1Int _ _ H2.out _ (Nat.le_refl _)).mono ?_; rintro e w1 ⟨rfl, hb1⟩)
        | (at_builtin; refine wpList_pushS rfl (.tmp 12) (.tmp 18) rfl w1 w.heap.size (.slice Av (nums (us.take k)).length cv) (nums (us.take k)) rfl (ho.below hb1) _ rfl hll (by have := hb1.size; omega) ?_; intro v' w2 ho2 hb2 hc2 hv2))
      have hbw : Below w.heap.size w w2 := (below_then hb1 hsz hbr).trans hb2
      go_roundw
      case rel => exact ⟨k + 1, by omega, by go_num, by rw [HN.out, H3.out]; exact ho2, hbw⟩
      case measure => simp [intOf]; omega
    · obtain rfl : k = n := by omega
      rw [List.take_of_length_le (by rw [HL.out]; exact Nat.le_refl _)] at ho
      have hll : (nums us).length ≤ 1000 := by unfold nums; rw [List.length_map, HL.out]; exact hn
      obtain ⟨Av, cv, rfl⟩ := ho.form
      have hr := ho.reads
      go_wp2_with (go_at_call 54; refine (l1Words _ _ _ _ [32] _ hr (nums_short HU.out) (by simp) hll).mono ?_; rintro e w1 ⟨rfl, q, rfl⟩)
      go_ret
      exact ⟨rfl, below_drewN (hbr.mono hB) _⟩
end Go.Proofs.YtkhkdnmpbfmmeaaDoor
