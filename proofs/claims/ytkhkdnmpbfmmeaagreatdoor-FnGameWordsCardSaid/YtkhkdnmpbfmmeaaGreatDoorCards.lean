/-
  DERIVED. GIVEN WITH THE SEED: THE CARDS: each row of YtkhkdnmpbfmmeaaGreatDoorRows.lean that lists a variable, with what it lists TIED to the program's text (the seventh form; the later family's looks); each row that meets fmt, with fmt's text TOLD by the authors' own Lean function (tested against real Go, not proved from fmt's source: count such statements apart). THE CARD IS WHAT COUNTS. Prove the row's statement (the work); the ties are given (YtkhkdnmpbfmmeaaGreatDoorTie.lean); close each card by the builder's one call (the guide's Derived/Test/ToyasCard.lean, 'card_holds'). Laid BY PROGRAM, IN A SANDBOX (cutbox-door.mjs). By AI agents, Wed Nov 11 2026. No macro, syntax, notation, axiom, sorry.
-/
import Derived.Test.YtkhkdnmpbfmmeaaGreatDoorRows
import GoSem.ClaimSeven
namespace Go.Proofs.YtkhkdnmpbfmmeaaGreatDoor
namespace Rows

/-- THE TIED CARD OF 'laws.FnGameWords'. -/
def fnGameWordsCard : Claim7 := { stood := { row := fnGameWordsRow, standIns := [], harness := (true, "7e256c5cc3a9ed13767c7bffa1ffa0089d00c277bced51aa37266fd2a0dc9d39"), looks := false }, kinds := [], alts := [], laidByText := true, laidKinds := [.data, .data, .data, .data, .data, .pinned], laidTests := true, laidLooks := .later }
def FnGameWordsCardSaid : Prop := Claim7.holds Tryz.pinned (.plain (OpenSpec.ofChange fnGameWordsSpec)) fnGameWordsCard

/-- THE SECOND FORM's CARD OF 'laws.FnGameWords'. -/
def fnGameWordsUptoCard : Claim7 := { stood := { row := fnGameWordsUptoRow, standIns := [], harness := (true, "7e256c5cc3a9ed13767c7bffa1ffa0089d00c277bced51aa37266fd2a0dc9d39"), looks := false }, kinds := [], alts := [], laidByText := true, laidKinds := [.data, .data, .data, .data, .data, .pinned], laidTests := true, laidLooks := .later }
def FnGameWordsUptoCardSaid : Prop := Claim7.holds Tryz.pinned (.plain (OpenSpec.upto fnGameWordsSpec)) fnGameWordsUptoCard
end Rows
end Go.Proofs.YtkhkdnmpbfmmeaaGreatDoor
