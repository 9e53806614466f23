/- FnExactTextGame: for every input the law returns true, and each argument reads as it read before. No condition. -/
import Derived.Test.YtkhkdnmpbfmmeaaDoorTxg
import Derived.Test.YtkhkdnmpbfmmeaaDoorParMark
import Derived.Test.YtkhkdnmpbfmmeaaDoorUse
import Derived.Test.YtkhkdnmpbfmmeaaDoorGame
import Derived.Test.YtkhkdnmpbfmmeaaDoorOpen
import Derived.Deep.RegionHeld3
import Derived.Test.YtkhkdnmpbfmmeaaDoorCard
import Derived.Test.YtkhkdnmpbfmmeaaDoorCards
import Derived.Test.YtkhkdnmpbfmmeaaDoorTie
namespace Go.Proofs.YtkhkdnmpbfmmeaaDoor.fnExactTextGame
open Go.ChangeShapes Go.WideShapes Go.ChangeAt Go.RowKit

set_option maxRecDepth 100000 in
set_option maxHeartbeats 1600000 in
theorem walk (z0 : ByteArray) (w : World)  (hP : PN w) (hM : Max w) :
    Calls Tryd.prog 10 #[.string z0] w fun e w' => e = .returned (.bool true) ∧ Below w.heap.size w w' := by
  by_cases hm0 : 1048576 < z0.size
  · go_enter Tryd.func10, Tryd.ntmps10
    go_wp2
    go_ret
    exact ⟨rfl, Below.refl _ _⟩
  replace hm0 : z0.size ≤ 1048576 := by omega
  have hR : (ptot (tgZ z0.data.toList) : Int) ≤ 8192 := tgZ_tot z0.data.toList
  have hne1 : ((tgE z0.data.toList) != (tgE z0.data.toList)) = false := by simp
  have hww := Below.refl w.heap.size w
  go_enter Tryd.func10, Tryd.ntmps10
  go_wp2_with fail
  refine (specTextGame _ _ _ (Nat.le_refl _) ).mono ?_; rintro e w1 ⟨vra, vrb, vrc, rfl, or, hbw1⟩
  obtain ⟨Ara, cra, Arb, crb, Arc, crc, rfl, rfl, rfl⟩ := or.form
  have zw1 := hbw1.size
  have hww1 := below_then hbw1 hww.size hww
  have fr := Far.refl w.heap.size w1
  go_wp2_with fail
  have hww2 : Below w.heap.size w (w1.alloc (.cells #[.slice Ara (tgZ z0.data.toList).1.length cra, .slice Arb (tgZ z0.data.toList).2.1.length crb, .slice Arc (tgZ z0.data.toList).2.2.length crc] 54)) := below_alloc (Nat.le_refl _) hww1
  have zw2 : w1.heap.size + 1 = (w1.alloc (.cells #[.slice Ara (tgZ z0.data.toList).1.length cra, .slice Arb (tgZ z0.data.toList).2.1.length crb, .slice Arc (tgZ z0.data.toList).2.2.length crc] 54)).heap.size := by simp
  replace fr := fr.step (below_alloc (o := (.cells #[.slice Ara (tgZ z0.data.toList).1.length cra, .slice Arb (tgZ z0.data.toList).2.1.length crb, .slice Arc (tgZ z0.data.toList).2.2.length crc] 54)) (Nat.le_refl _) (Below.refl _ _))
  have bxr := Box.new w1 54 #[.slice Ara (tgZ z0.data.toList).1.length cra, .slice Arb (tgZ z0.data.toList).2.1.length crb, .slice Arc (tgZ z0.data.toList).2.2.length crc]
  generalize (w1.alloc (.cells #[.slice Ara (tgZ z0.data.toList).1.length cra, .slice Arb (tgZ z0.data.toList).2.1.length crb, .slice Arc (tgZ z0.data.toList).2.2.length crc] 54)) = w2 at hww2 zw2 fr bxr ⊢
  refine (implTextGame _ _ _ (Nat.le_refl _) (hP.keep (keeps_below hww2)) (hM.keep (keeps_below hww2)) ).mono ?_; rintro e w3 ⟨vga, vgb, vgc, rfl, og, hbw3⟩
  obtain ⟨Aga, cga, Agb, cgb, Agc, cgc, rfl, rfl, rfl⟩ := og.form
  have zw3 := hbw3.size
  have hww3 := below_then hbw3 hww2.size hww2
  replace fr := fr.step hbw3
  replace bxr := bxr.below hbw3 bxr.lt
  have fg := Far.refl w2.heap.size w3
  have qr0 : w3.cell? ⟨w1.heap.size, 0, none⟩ = some (.slice Ara (tgZ z0.data.toList).1.length cra) := bxr.cell 0
  have pr0 : ∀ o, (w3.alloc o).cell? ⟨w1.heap.size, 0, none⟩ = some (.slice Ara (tgZ z0.data.toList).1.length cra) := fun o => keepA qr0
  have rr0 : w1.heap.size < w3.heap.size := bxr.lt
  have qr1 : w3.cell? ⟨w1.heap.size, 1, none⟩ = some (.slice Arb (tgZ z0.data.toList).2.1.length crb) := bxr.cell 1
  have pr1 : ∀ o, (w3.alloc o).cell? ⟨w1.heap.size, 1, none⟩ = some (.slice Arb (tgZ z0.data.toList).2.1.length crb) := fun o => keepA qr1
  have rr1 : w1.heap.size < w3.heap.size := bxr.lt
  have qr2 : w3.cell? ⟨w1.heap.size, 2, none⟩ = some (.slice Arc (tgZ z0.data.toList).2.2.length crc) := bxr.cell 2
  have pr2 : ∀ o, (w3.alloc o).cell? ⟨w1.heap.size, 2, none⟩ = some (.slice Arc (tgZ z0.data.toList).2.2.length crc) := fun o => keepA qr2
  have rr2 : w1.heap.size < w3.heap.size := bxr.lt
  go_wp2_with fail
  clear qr0 pr0 rr0 qr1 pr1 rr1 qr2 pr2 rr2
  have hww4 : Below w.heap.size w (w3.alloc (.cells #[.slice Aga (tgZ z0.data.toList).1.length cga, .slice Agb (tgZ z0.data.toList).2.1.length cgb, .slice Agc (tgZ z0.data.toList).2.2.length cgc] 54)) := below_alloc (Nat.le_refl _) hww3
  have zw4 : w3.heap.size + 1 = (w3.alloc (.cells #[.slice Aga (tgZ z0.data.toList).1.length cga, .slice Agb (tgZ z0.data.toList).2.1.length cgb, .slice Agc (tgZ z0.data.toList).2.2.length cgc] 54)).heap.size := by simp
  replace fr := fr.step (below_alloc (o := (.cells #[.slice Aga (tgZ z0.data.toList).1.length cga, .slice Agb (tgZ z0.data.toList).2.1.length cgb, .slice Agc (tgZ z0.data.toList).2.2.length cgc] 54)) (Nat.le_refl _) (Below.refl _ _))
  replace fg := fg.step (below_alloc (o := (.cells #[.slice Aga (tgZ z0.data.toList).1.length cga, .slice Agb (tgZ z0.data.toList).2.1.length cgb, .slice Agc (tgZ z0.data.toList).2.2.length cgc] 54)) (Nat.le_refl _) (Below.refl _ _))
  replace bxr := bxr.alloc (.cells #[.slice Aga (tgZ z0.data.toList).1.length cga, .slice Agb (tgZ z0.data.toList).2.1.length cgb, .slice Agc (tgZ z0.data.toList).2.2.length cgc] 54)
  have bxg := Box.new w3 54 #[.slice Aga (tgZ z0.data.toList).1.length cga, .slice Agb (tgZ z0.data.toList).2.1.length cgb, .slice Agc (tgZ z0.data.toList).2.2.length cgc]
  generalize (w3.alloc (.cells #[.slice Aga (tgZ z0.data.toList).1.length cga, .slice Agb (tgZ z0.data.toList).2.1.length cgb, .slice Agc (tgZ z0.data.toList).2.2.length cgc] 54)) = w4 at hww4 zw4 fr fg bxr bxg ⊢
  refine (eqParity _ _ _ _ _ _ _ _ _ _ (Nat.le_refl _) (og.hold fg).reads (or.hold fr).reads).mono ?_; rintro e w5 ⟨rfl, hbw5⟩
  have zw5 := hbw5.size
  have hww5 := below_then hbw5 hww4.size hww4
  replace fr := fr.step hbw5
  replace fg := fg.step hbw5
  replace bxr := bxr.below hbw5 bxr.lt
  replace bxg := bxg.below hbw5 bxg.lt
  rw [eqPar_self]
  have qr0 : w5.cell? ⟨w1.heap.size, 0, none⟩ = some (.slice Ara (tgZ z0.data.toList).1.length cra) := bxr.cell 0
  have pr0 : ∀ o, (w5.alloc o).cell? ⟨w1.heap.size, 0, none⟩ = some (.slice Ara (tgZ z0.data.toList).1.length cra) := fun o => keepA qr0
  have rr0 : w1.heap.size < w5.heap.size := bxr.lt
  have qr1 : w5.cell? ⟨w1.heap.size, 1, none⟩ = some (.slice Arb (tgZ z0.data.toList).2.1.length crb) := bxr.cell 1
  have pr1 : ∀ o, (w5.alloc o).cell? ⟨w1.heap.size, 1, none⟩ = some (.slice Arb (tgZ z0.data.toList).2.1.length crb) := fun o => keepA qr1
  have rr1 : w1.heap.size < w5.heap.size := bxr.lt
  have qr2 : w5.cell? ⟨w1.heap.size, 2, none⟩ = some (.slice Arc (tgZ z0.data.toList).2.2.length crc) := bxr.cell 2
  have pr2 : ∀ o, (w5.alloc o).cell? ⟨w1.heap.size, 2, none⟩ = some (.slice Arc (tgZ z0.data.toList).2.2.length crc) := fun o => keepA qr2
  have rr2 : w1.heap.size < w5.heap.size := bxr.lt
  have qg0 : w5.cell? ⟨w3.heap.size, 0, none⟩ = some (.slice Aga (tgZ z0.data.toList).1.length cga) := bxg.cell 0
  have pg0 : ∀ o, (w5.alloc o).cell? ⟨w3.heap.size, 0, none⟩ = some (.slice Aga (tgZ z0.data.toList).1.length cga) := fun o => keepA qg0
  have rg0 : w3.heap.size < w5.heap.size := bxg.lt
  have qg1 : w5.cell? ⟨w3.heap.size, 1, none⟩ = some (.slice Agb (tgZ z0.data.toList).2.1.length cgb) := bxg.cell 1
  have pg1 : ∀ o, (w5.alloc o).cell? ⟨w3.heap.size, 1, none⟩ = some (.slice Agb (tgZ z0.data.toList).2.1.length cgb) := fun o => keepA qg1
  have rg1 : w3.heap.size < w5.heap.size := bxg.lt
  have qg2 : w5.cell? ⟨w3.heap.size, 2, none⟩ = some (.slice Agc (tgZ z0.data.toList).2.2.length cgc) := bxg.cell 2
  have pg2 : ∀ o, (w5.alloc o).cell? ⟨w3.heap.size, 2, none⟩ = some (.slice Agc (tgZ z0.data.toList).2.2.length cgc) := fun o => keepA qg2
  have rg2 : w3.heap.size < w5.heap.size := bxg.lt
  go_wp2_with fail
  clear qr0 pr0 rr0 qr1 pr1 rr1 qr2 pr2 rr2 qg0 pg0 rg0 qg1 pg1 rg1 qg2 pg2 rg2
  refine (markParityU _ _ _ _ 1 _ _ _ (by omega) og fg (by omega) (by omega)).mono ?_; rintro e w6 ⟨rfl, ong, chw6⟩
  have zw6 := chw6.size
  have blw6 : Below w2.heap.size w5 w6 := chw6.below (by omega) (fun x h => h.1)
  have hww6 := below_then blw6 (by omega) hww5
  replace fr := fr.mark chw6 (by omega)
  clear og fg; have og := ong; have fg := Far.refl w2.heap.size w6
  replace bxr := bxr.chg chw6 (by omega)
  replace bxg := bxg.chg chw6 (by omega)
  have qr0 : w6.cell? ⟨w1.heap.size, 0, none⟩ = some (.slice Ara (tgZ z0.data.toList).1.length cra) := bxr.cell 0
  have pr0 : ∀ o, (w6.alloc o).cell? ⟨w1.heap.size, 0, none⟩ = some (.slice Ara (tgZ z0.data.toList).1.length cra) := fun o => keepA qr0
  have rr0 : w1.heap.size < w6.heap.size := bxr.lt
  have qr1 : w6.cell? ⟨w1.heap.size, 1, none⟩ = some (.slice Arb (tgZ z0.data.toList).2.1.length crb) := bxr.cell 1
  have pr1 : ∀ o, (w6.alloc o).cell? ⟨w1.heap.size, 1, none⟩ = some (.slice Arb (tgZ z0.data.toList).2.1.length crb) := fun o => keepA qr1
  have rr1 : w1.heap.size < w6.heap.size := bxr.lt
  have qr2 : w6.cell? ⟨w1.heap.size, 2, none⟩ = some (.slice Arc (tgZ z0.data.toList).2.2.length crc) := bxr.cell 2
  have pr2 : ∀ o, (w6.alloc o).cell? ⟨w1.heap.size, 2, none⟩ = some (.slice Arc (tgZ z0.data.toList).2.2.length crc) := fun o => keepA qr2
  have rr2 : w1.heap.size < w6.heap.size := bxr.lt
  have qg0 : w6.cell? ⟨w3.heap.size, 0, none⟩ = some (.slice Aga (tgZ z0.data.toList).1.length cga) := bxg.cell 0
  have pg0 : ∀ o, (w6.alloc o).cell? ⟨w3.heap.size, 0, none⟩ = some (.slice Aga (tgZ z0.data.toList).1.length cga) := fun o => keepA qg0
  have rg0 : w3.heap.size < w6.heap.size := bxg.lt
  have qg1 : w6.cell? ⟨w3.heap.size, 1, none⟩ = some (.slice Agb (tgZ z0.data.toList).2.1.length cgb) := bxg.cell 1
  have pg1 : ∀ o, (w6.alloc o).cell? ⟨w3.heap.size, 1, none⟩ = some (.slice Agb (tgZ z0.data.toList).2.1.length cgb) := fun o => keepA qg1
  have rg1 : w3.heap.size < w6.heap.size := bxg.lt
  have qg2 : w6.cell? ⟨w3.heap.size, 2, none⟩ = some (.slice Agc (tgZ z0.data.toList).2.2.length cgc) := bxg.cell 2
  have pg2 : ∀ o, (w6.alloc o).cell? ⟨w3.heap.size, 2, none⟩ = some (.slice Agc (tgZ z0.data.toList).2.2.length cgc) := fun o => keepA qg2
  have rg2 : w3.heap.size < w6.heap.size := bxg.lt
  go_wp2_with fail
  clear qr0 pr0 rr0 qr1 pr1 rr1 qr2 pr2 rr2 qg0 pg0 rg0 qg1 pg1 rg1 qg2 pg2 rg2
  refine (heldParity _ _ _ (tgZ z0.data.toList) 1 _ _ (Nat.le_refl _) (og.hold fg).reads (by omega) (by omega)).mono ?_; rintro e w7 ⟨rfl, hbw7⟩
  have zw7 := hbw7.size
  have hww7 := below_then hbw7 hww6.size hww6
  replace fr := fr.step hbw7
  replace fg := fg.step hbw7
  replace bxr := bxr.below hbw7 bxr.lt
  replace bxg := bxg.below hbw7 bxg.lt
  have qr0 : w7.cell? ⟨w1.heap.size, 0, none⟩ = some (.slice Ara (tgZ z0.data.toList).1.length cra) := bxr.cell 0
  have pr0 : ∀ o, (w7.alloc o).cell? ⟨w1.heap.size, 0, none⟩ = some (.slice Ara (tgZ z0.data.toList).1.length cra) := fun o => keepA qr0
  have rr0 : w1.heap.size < w7.heap.size := bxr.lt
  have qr1 : w7.cell? ⟨w1.heap.size, 1, none⟩ = some (.slice Arb (tgZ z0.data.toList).2.1.length crb) := bxr.cell 1
  have pr1 : ∀ o, (w7.alloc o).cell? ⟨w1.heap.size, 1, none⟩ = some (.slice Arb (tgZ z0.data.toList).2.1.length crb) := fun o => keepA qr1
  have rr1 : w1.heap.size < w7.heap.size := bxr.lt
  have qr2 : w7.cell? ⟨w1.heap.size, 2, none⟩ = some (.slice Arc (tgZ z0.data.toList).2.2.length crc) := bxr.cell 2
  have pr2 : ∀ o, (w7.alloc o).cell? ⟨w1.heap.size, 2, none⟩ = some (.slice Arc (tgZ z0.data.toList).2.2.length crc) := fun o => keepA qr2
  have rr2 : w1.heap.size < w7.heap.size := bxr.lt
  have qg0 : w7.cell? ⟨w3.heap.size, 0, none⟩ = some (.slice Aga (tgZ z0.data.toList).1.length cga) := bxg.cell 0
  have pg0 : ∀ o, (w7.alloc o).cell? ⟨w3.heap.size, 0, none⟩ = some (.slice Aga (tgZ z0.data.toList).1.length cga) := fun o => keepA qg0
  have rg0 : w3.heap.size < w7.heap.size := bxg.lt
  have qg1 : w7.cell? ⟨w3.heap.size, 1, none⟩ = some (.slice Agb (tgZ z0.data.toList).2.1.length cgb) := bxg.cell 1
  have pg1 : ∀ o, (w7.alloc o).cell? ⟨w3.heap.size, 1, none⟩ = some (.slice Agb (tgZ z0.data.toList).2.1.length cgb) := fun o => keepA qg1
  have rg1 : w3.heap.size < w7.heap.size := bxg.lt
  have qg2 : w7.cell? ⟨w3.heap.size, 2, none⟩ = some (.slice Agc (tgZ z0.data.toList).2.2.length cgc) := bxg.cell 2
  have pg2 : ∀ o, (w7.alloc o).cell? ⟨w3.heap.size, 2, none⟩ = some (.slice Agc (tgZ z0.data.toList).2.2.length cgc) := fun o => keepA qg2
  have rg2 : w3.heap.size < w7.heap.size := bxg.lt
  go_wp2_with fail
  clear qr0 pr0 rr0 qr1 pr1 rr1 qr2 pr2 rr2 qg0 pg0 rg0 qg1 pg1 rg1 qg2 pg2 rg2
  refine (implTextGame _ _ _ (Nat.le_refl _) (hP.keep (keeps_below hww7)) (hM.keep (keeps_below hww7)) ).mono ?_; rintro e w8 ⟨vha, vhb, vhc, rfl, oh, hbw8⟩
  obtain ⟨Aha, cha, Ahb, chb, Ahc, chc, rfl, rfl, rfl⟩ := oh.form
  have zw8 := hbw8.size
  have hww8 := below_then hbw8 hww7.size hww7
  replace fr := fr.step hbw8
  replace fg := fg.step hbw8
  replace bxr := bxr.below hbw8 bxr.lt
  replace bxg := bxg.below hbw8 bxg.lt
  have fh := Far.refl w7.heap.size w8
  have qr0 : w8.cell? ⟨w1.heap.size, 0, none⟩ = some (.slice Ara (tgZ z0.data.toList).1.length cra) := bxr.cell 0
  have pr0 : ∀ o, (w8.alloc o).cell? ⟨w1.heap.size, 0, none⟩ = some (.slice Ara (tgZ z0.data.toList).1.length cra) := fun o => keepA qr0
  have rr0 : w1.heap.size < w8.heap.size := bxr.lt
  have qr1 : w8.cell? ⟨w1.heap.size, 1, none⟩ = some (.slice Arb (tgZ z0.data.toList).2.1.length crb) := bxr.cell 1
  have pr1 : ∀ o, (w8.alloc o).cell? ⟨w1.heap.size, 1, none⟩ = some (.slice Arb (tgZ z0.data.toList).2.1.length crb) := fun o => keepA qr1
  have rr1 : w1.heap.size < w8.heap.size := bxr.lt
  have qr2 : w8.cell? ⟨w1.heap.size, 2, none⟩ = some (.slice Arc (tgZ z0.data.toList).2.2.length crc) := bxr.cell 2
  have pr2 : ∀ o, (w8.alloc o).cell? ⟨w1.heap.size, 2, none⟩ = some (.slice Arc (tgZ z0.data.toList).2.2.length crc) := fun o => keepA qr2
  have rr2 : w1.heap.size < w8.heap.size := bxr.lt
  have qg0 : w8.cell? ⟨w3.heap.size, 0, none⟩ = some (.slice Aga (tgZ z0.data.toList).1.length cga) := bxg.cell 0
  have pg0 : ∀ o, (w8.alloc o).cell? ⟨w3.heap.size, 0, none⟩ = some (.slice Aga (tgZ z0.data.toList).1.length cga) := fun o => keepA qg0
  have rg0 : w3.heap.size < w8.heap.size := bxg.lt
  have qg1 : w8.cell? ⟨w3.heap.size, 1, none⟩ = some (.slice Agb (tgZ z0.data.toList).2.1.length cgb) := bxg.cell 1
  have pg1 : ∀ o, (w8.alloc o).cell? ⟨w3.heap.size, 1, none⟩ = some (.slice Agb (tgZ z0.data.toList).2.1.length cgb) := fun o => keepA qg1
  have rg1 : w3.heap.size < w8.heap.size := bxg.lt
  have qg2 : w8.cell? ⟨w3.heap.size, 2, none⟩ = some (.slice Agc (tgZ z0.data.toList).2.2.length cgc) := bxg.cell 2
  have pg2 : ∀ o, (w8.alloc o).cell? ⟨w3.heap.size, 2, none⟩ = some (.slice Agc (tgZ z0.data.toList).2.2.length cgc) := fun o => keepA qg2
  have rg2 : w3.heap.size < w8.heap.size := bxg.lt
  go_wp2_with fail
  clear qr0 pr0 rr0 qr1 pr1 rr1 qr2 pr2 rr2 qg0 pg0 rg0 qg1 pg1 rg1 qg2 pg2 rg2
  have hww9 : Below w.heap.size w (w8.alloc (.cells #[.slice Aha (tgZ z0.data.toList).1.length cha, .slice Ahb (tgZ z0.data.toList).2.1.length chb, .slice Ahc (tgZ z0.data.toList).2.2.length chc] 54)) := below_alloc (Nat.le_refl _) hww8
  have zw9 : w8.heap.size + 1 = (w8.alloc (.cells #[.slice Aha (tgZ z0.data.toList).1.length cha, .slice Ahb (tgZ z0.data.toList).2.1.length chb, .slice Ahc (tgZ z0.data.toList).2.2.length chc] 54)).heap.size := by simp
  replace fr := fr.step (below_alloc (o := (.cells #[.slice Aha (tgZ z0.data.toList).1.length cha, .slice Ahb (tgZ z0.data.toList).2.1.length chb, .slice Ahc (tgZ z0.data.toList).2.2.length chc] 54)) (Nat.le_refl _) (Below.refl _ _))
  replace fg := fg.step (below_alloc (o := (.cells #[.slice Aha (tgZ z0.data.toList).1.length cha, .slice Ahb (tgZ z0.data.toList).2.1.length chb, .slice Ahc (tgZ z0.data.toList).2.2.length chc] 54)) (Nat.le_refl _) (Below.refl _ _))
  replace fh := fh.step (below_alloc (o := (.cells #[.slice Aha (tgZ z0.data.toList).1.length cha, .slice Ahb (tgZ z0.data.toList).2.1.length chb, .slice Ahc (tgZ z0.data.toList).2.2.length chc] 54)) (Nat.le_refl _) (Below.refl _ _))
  replace bxr := bxr.alloc (.cells #[.slice Aha (tgZ z0.data.toList).1.length cha, .slice Ahb (tgZ z0.data.toList).2.1.length chb, .slice Ahc (tgZ z0.data.toList).2.2.length chc] 54)
  replace bxg := bxg.alloc (.cells #[.slice Aha (tgZ z0.data.toList).1.length cha, .slice Ahb (tgZ z0.data.toList).2.1.length chb, .slice Ahc (tgZ z0.data.toList).2.2.length chc] 54)
  have bxh := Box.new w8 54 #[.slice Aha (tgZ z0.data.toList).1.length cha, .slice Ahb (tgZ z0.data.toList).2.1.length chb, .slice Ahc (tgZ z0.data.toList).2.2.length chc]
  generalize (w8.alloc (.cells #[.slice Aha (tgZ z0.data.toList).1.length cha, .slice Ahb (tgZ z0.data.toList).2.1.length chb, .slice Ahc (tgZ z0.data.toList).2.2.length chc] 54)) = w9 at hww9 zw9 fr fg fh bxr bxg bxh ⊢
  refine (eqParity _ _ _ _ _ _ _ _ _ _ (Nat.le_refl _) (oh.hold fh).reads (or.hold fr).reads).mono ?_; rintro e w10 ⟨rfl, hbw10⟩
  have zw10 := hbw10.size
  have hww10 := below_then hbw10 hww9.size hww9
  replace fr := fr.step hbw10
  replace fg := fg.step hbw10
  replace fh := fh.step hbw10
  replace bxr := bxr.below hbw10 bxr.lt
  replace bxg := bxg.below hbw10 bxg.lt
  replace bxh := bxh.below hbw10 bxh.lt
  rw [eqPar_self]
  have qr0 : w10.cell? ⟨w1.heap.size, 0, none⟩ = some (.slice Ara (tgZ z0.data.toList).1.length cra) := bxr.cell 0
  have pr0 : ∀ o, (w10.alloc o).cell? ⟨w1.heap.size, 0, none⟩ = some (.slice Ara (tgZ z0.data.toList).1.length cra) := fun o => keepA qr0
  have rr0 : w1.heap.size < w10.heap.size := bxr.lt
  have qr1 : w10.cell? ⟨w1.heap.size, 1, none⟩ = some (.slice Arb (tgZ z0.data.toList).2.1.length crb) := bxr.cell 1
  have pr1 : ∀ o, (w10.alloc o).cell? ⟨w1.heap.size, 1, none⟩ = some (.slice Arb (tgZ z0.data.toList).2.1.length crb) := fun o => keepA qr1
  have rr1 : w1.heap.size < w10.heap.size := bxr.lt
  have qr2 : w10.cell? ⟨w1.heap.size, 2, none⟩ = some (.slice Arc (tgZ z0.data.toList).2.2.length crc) := bxr.cell 2
  have pr2 : ∀ o, (w10.alloc o).cell? ⟨w1.heap.size, 2, none⟩ = some (.slice Arc (tgZ z0.data.toList).2.2.length crc) := fun o => keepA qr2
  have rr2 : w1.heap.size < w10.heap.size := bxr.lt
  have qg0 : w10.cell? ⟨w3.heap.size, 0, none⟩ = some (.slice Aga (tgZ z0.data.toList).1.length cga) := bxg.cell 0
  have pg0 : ∀ o, (w10.alloc o).cell? ⟨w3.heap.size, 0, none⟩ = some (.slice Aga (tgZ z0.data.toList).1.length cga) := fun o => keepA qg0
  have rg0 : w3.heap.size < w10.heap.size := bxg.lt
  have qg1 : w10.cell? ⟨w3.heap.size, 1, none⟩ = some (.slice Agb (tgZ z0.data.toList).2.1.length cgb) := bxg.cell 1
  have pg1 : ∀ o, (w10.alloc o).cell? ⟨w3.heap.size, 1, none⟩ = some (.slice Agb (tgZ z0.data.toList).2.1.length cgb) := fun o => keepA qg1
  have rg1 : w3.heap.size < w10.heap.size := bxg.lt
  have qg2 : w10.cell? ⟨w3.heap.size, 2, none⟩ = some (.slice Agc (tgZ z0.data.toList).2.2.length cgc) := bxg.cell 2
  have pg2 : ∀ o, (w10.alloc o).cell? ⟨w3.heap.size, 2, none⟩ = some (.slice Agc (tgZ z0.data.toList).2.2.length cgc) := fun o => keepA qg2
  have rg2 : w3.heap.size < w10.heap.size := bxg.lt
  have qh0 : w10.cell? ⟨w8.heap.size, 0, none⟩ = some (.slice Aha (tgZ z0.data.toList).1.length cha) := bxh.cell 0
  have ph0 : ∀ o, (w10.alloc o).cell? ⟨w8.heap.size, 0, none⟩ = some (.slice Aha (tgZ z0.data.toList).1.length cha) := fun o => keepA qh0
  have rh0 : w8.heap.size < w10.heap.size := bxh.lt
  have qh1 : w10.cell? ⟨w8.heap.size, 1, none⟩ = some (.slice Ahb (tgZ z0.data.toList).2.1.length chb) := bxh.cell 1
  have ph1 : ∀ o, (w10.alloc o).cell? ⟨w8.heap.size, 1, none⟩ = some (.slice Ahb (tgZ z0.data.toList).2.1.length chb) := fun o => keepA qh1
  have rh1 : w8.heap.size < w10.heap.size := bxh.lt
  have qh2 : w10.cell? ⟨w8.heap.size, 2, none⟩ = some (.slice Ahc (tgZ z0.data.toList).2.2.length chc) := bxh.cell 2
  have ph2 : ∀ o, (w10.alloc o).cell? ⟨w8.heap.size, 2, none⟩ = some (.slice Ahc (tgZ z0.data.toList).2.2.length chc) := fun o => keepA qh2
  have rh2 : w8.heap.size < w10.heap.size := bxh.lt
  go_wp2_with fail
  clear qr0 pr0 rr0 qr1 pr1 rr1 qr2 pr2 rr2 qg0 pg0 rg0 qg1 pg1 rg1 qg2 pg2 rg2 qh0 ph0 rh0 qh1 ph1 rh1 qh2 ph2 rh2
  refine (heldParity _ _ _ (tgZ z0.data.toList) 1 _ _ (Nat.le_refl _) (og.hold fg).reads (by omega) (by omega)).mono ?_; rintro e w11 ⟨rfl, hbw11⟩
  have zw11 := hbw11.size
  have hww11 := below_then hbw11 hww10.size hww10
  replace fr := fr.step hbw11
  replace fg := fg.step hbw11
  replace fh := fh.step hbw11
  replace bxr := bxr.below hbw11 bxr.lt
  replace bxg := bxg.below hbw11 bxg.lt
  replace bxh := bxh.below hbw11 bxh.lt
  have qr0 : w11.cell? ⟨w1.heap.size, 0, none⟩ = some (.slice Ara (tgZ z0.data.toList).1.length cra) := bxr.cell 0
  have qr1 : w11.cell? ⟨w1.heap.size, 1, none⟩ = some (.slice Arb (tgZ z0.data.toList).2.1.length crb) := bxr.cell 1
  have qr2 : w11.cell? ⟨w1.heap.size, 2, none⟩ = some (.slice Arc (tgZ z0.data.toList).2.2.length crc) := bxr.cell 2
  have qg0 : w11.cell? ⟨w3.heap.size, 0, none⟩ = some (.slice Aga (tgZ z0.data.toList).1.length cga) := bxg.cell 0
  have qg1 : w11.cell? ⟨w3.heap.size, 1, none⟩ = some (.slice Agb (tgZ z0.data.toList).2.1.length cgb) := bxg.cell 1
  have qg2 : w11.cell? ⟨w3.heap.size, 2, none⟩ = some (.slice Agc (tgZ z0.data.toList).2.2.length cgc) := bxg.cell 2
  have qh0 : w11.cell? ⟨w8.heap.size, 0, none⟩ = some (.slice Aha (tgZ z0.data.toList).1.length cha) := bxh.cell 0
  have qh1 : w11.cell? ⟨w8.heap.size, 1, none⟩ = some (.slice Ahb (tgZ z0.data.toList).2.1.length chb) := bxh.cell 1
  have qh2 : w11.cell? ⟨w8.heap.size, 2, none⟩ = some (.slice Ahc (tgZ z0.data.toList).2.2.length chc) := bxh.cell 2
  go_wp2
  go_ret
  exact ⟨rfl, hww11⟩

theorem own : ownKnob Tryd.prog.godebug = none := by kernel_rfl
theorem laidOut : laidOutB Tryd.prog = true := by kernel_rfl
set_option maxRecDepth 100000 in
theorem lifted (os : Os) (started : os.Started) (H : Type) (enc : TypeId × Value → H) :
    ReturnsInHanded {} Tryd.checked os 10 .any (fun w args => (Rows.fnExactTextGameSpec.pre enc Tryd.prog Tryd.f10 Rows.fnExactTextGameRow.domain false w args ∧ laidMetH Tryd.prog Rows.fnExactTextGameRow.laid w) ∧ sizedMet enc Tryd.prog Tryd.f10 (OpenSpec.ofChange Rows.fnExactTextGameSpec) false w args) (Rows.fnExactTextGameSpec.post enc Tryd.prog Tryd.f10 false true false false) := by
  refine returns_laid (C := Tryd.checked) own started (by kernel_rfl) Tryd.func10
    (ChangeSpec.witness_shaped (enc := enc) (C := Tryd.checked) (os := os) (X := fun w _ => laidMetH Tryd.prog Rows.fnExactTextGameRow.laid w) false (World.laidAll Tryd.prog os Rows.fnExactTextGameRow.laid) #[.string ⟨#[]⟩] 8 (World.laidAll_os _ _ _)
      (World.shaped_of_ZipB (by kernel_rfl) (by kernel_rfl)) (by kernel_rfl) (by kernel_rfl) (by kernel_rfl)
      (by rw [MakeChecks.laidMetH_plain _ _ _ (by kernel_rfl)]; exact laidMet_laidAll _ (by kernel_rfl) (by kernel_rfl))) ?_
  intro W base args ds gs before hval0 hW hL hsh
  have hval : ∀ (j : Nat) t v, Tryd.f10.params[j]? = some t → args[j]? = some v → Value.okWide Tryd.prog W .any base t v := hval0
  have hW' := hW
  obtain ⟨p, q, hA0, hV, rfl, hfz, hnd⟩ := hW
  have hA : DataW.TrodAll enc Tryd.prog W 0 (fun _ => true) true Tryd.f10.params.toList args.toList ds p := hA0
  rw [Tryd.params10] at hA hval
  obtain ⟨v0, vs0, d0, ds0, p0, q0, hargs, rfl, rfl, h0, r0⟩ := trodAll_cons hA
  obtain ⟨rfl, rfl, rfl⟩ := trodAll_nil r0
  obtain rfl : args = #[v0] := by cases args; simp_all
  obtain ⟨g1, rfl⟩ := names_one hV
  obtain ⟨a0, rfl, rfl, rfl, ws0⟩ := Go.ChangeMaps.open_string Tryd.underlying9 (hval 0 9 v0 rfl rfl) h0
  clear hA0 hval0
  have fP := names_of (by kernel_rfl) hL (by kernel_rfl)
  have fM := max_of hsh
  refine (walk a0 W fP fM).mono fun e W' ⟨he, bel⟩ => ?_
  subst he
  exact ⟨_, rfl, _, _, _, [], _, _, hW', trodAll_mk1 (shut_bool Tryd.underlying4 _), (trodAll_cons_mk (Go.ChangeMaps.shut_string Tryd.underlying9 ws0) trodAll_mk0), names_stay hV bel, bel.frame _, fun h => by cases h⟩
theorem over : Rows.fnExactTextGameRow.holds Tryd.pinned (OpenSpec.ofChange Rows.fnExactTextGameSpec) :=
  OpenClaim.holds_of_wide 10 Tryd.f10 rfl rfl rfl rfl rfl rfl rfl ⟨rfl, rfl, rfl, rfl, rfl⟩ rfl rfl rfl rfl rfl (by kernel_rfl) Tryd.func10 (by kernel_rfl)
    (of_decide_eq_true (by kernel_rfl)) (by unfold Func.isWrapper; first | (rw [if_pos (by decide +kernel)]; kernel_rfl) | (rw [if_neg (by decide +kernel)]; exact ⟨rfl, rfl⟩))
    (fun os started H enc _ => lifted os started H enc)
/-- no parameter wants a stand-in; the program's own looks are off -/
theorem plain (f : FuncId) (fn : Func) (hf : Tryd.pinned.checked.prog.funcNamed "loop.example/g00869/laws.FnExactTextGame" = some f) (hfn : Tryd.pinned.checked.prog.funcs[f]? = some fn) :
    false = Tryd.pinned.checked.prog.looks [] ∧ ∀ (j : Nat) t, fn.params[j]? = some t → Tryd.pinned.checked.prog.wantsStandIn t = false := by
  obtain rfl : f = 10 := Option.some.inj ((show Tryd.prog.funcNamed "loop.example/g00869/laws.FnExactTextGame" = some 10 by kernel_rfl).symm.trans hf) |>.symm
  obtain rfl : fn = Tryd.f10 := (Option.some.inj (Tryd.func10.symm.trans hfn)).symm
  refine ⟨by kernel_rfl, fun j t ht => ?_⟩
  rw [Tryd.params10] at ht
  have hm := Array.mem_of_getElem? ht
  simp only [Array.mem_def, List.mem_cons, List.mem_nil_iff, or_false] at hm
  subst hm
  exact (show Tryd.prog.wantsStandIn 9 = false by kernel_rfl)
/-- the statement -/
theorem proved : Rows.FnExactTextGameCardSaid :=
  Claim7.holds_tied_plain_at .later [] _ _ _ _ over (fun _ h => by cases h) (by kernel_rfl) (fun _ h => by cases h) fnExactTextGame_row_tie rfl ⟨rfl, rfl⟩ (by kernel_rfl) rfl plain (by kernel_rfl)
end Go.Proofs.YtkhkdnmpbfmmeaaDoor.fnExactTextGame

