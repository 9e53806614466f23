/-
  DERIVED. GIVEN WITH THE SEED: THE CARDS: each row of YtkhkdnmpbfmmeaaDoorRows.lean that lists a variable, with what it lists TIED to the program's text (the seventh form; the later family's looks); each row that meets fmt, with fmt's text TOLD by the authors' own Lean function (tested against real Go, not proved from fmt's source: count such statements apart). THE CARD IS WHAT COUNTS. Prove the row's statement (the work); the ties are given (YtkhkdnmpbfmmeaaDoorTie.lean); close each card by the builder's one call (the guide's Derived/Test/ToyasCard.lean, 'card_holds'). Laid BY PROGRAM, IN A SANDBOX (cutbox-door.mjs). By AI agents, Wed Nov 11 2026. No macro, syntax, notation, axiom, sorry.
-/
import Derived.Test.YtkhkdnmpbfmmeaaDoorRows
import GoSem.ClaimSeven
namespace Go.Proofs.YtkhkdnmpbfmmeaaDoor
namespace Rows

/-- THE TIED CARD OF 'laws.FnExactAnswerText'. -/
def fnExactAnswerTextCard : Claim7 := { stood := { row := fnExactAnswerTextRow, standIns := [], harness := (true, "6b09efe98e6cf35e19fa24e361f2659b34657f85283fa60ae1a16db1d0f5b792"), looks := false }, kinds := [], alts := [], laidByText := true, laidKinds := [.data, .data, .data, .data], laidTests := true, laidLooks := .later }
def FnExactAnswerTextCardSaid : Prop := Claim7.holds Tryd.pinned (.plain (OpenSpec.ofChange fnExactAnswerTextSpec)) fnExactAnswerTextCard

/-- THE TIED CARD OF 'laws.FnExactPlanText'. -/
def fnExactPlanTextCard : Claim7 := { stood := { row := fnExactPlanTextRow, standIns := [], harness := (true, "6b09efe98e6cf35e19fa24e361f2659b34657f85283fa60ae1a16db1d0f5b792"), looks := false }, kinds := [], alts := [], laidByText := true, laidKinds := [.data, .data, .data], laidTests := true, laidLooks := .later }
def FnExactPlanTextCardSaid : Prop := Claim7.holds Tryd.pinned (.plain (OpenSpec.ofChange fnExactPlanTextSpec)) fnExactPlanTextCard

/-- THE TIED CARD OF 'laws.FnExactTextPlan'. -/
def fnExactTextPlanCard : Claim7 := { stood := { row := fnExactTextPlanRow, standIns := [], harness := (true, "6b09efe98e6cf35e19fa24e361f2659b34657f85283fa60ae1a16db1d0f5b792"), looks := false }, kinds := [], alts := [], laidByText := true, laidKinds := [.data, .pinned], laidTests := true, laidLooks := .later }
def FnExactTextPlanCardSaid : Prop := Claim7.holds Tryd.pinned (.plain (OpenSpec.ofChange fnExactTextPlanSpec)) fnExactTextPlanCard

/-- THE TIED CARD OF 'laws.FnExactTextVertex'. -/
def fnExactTextVertexCard : Claim7 := { stood := { row := fnExactTextVertexRow, standIns := [], harness := (true, "6b09efe98e6cf35e19fa24e361f2659b34657f85283fa60ae1a16db1d0f5b792"), looks := false }, kinds := [], alts := [], laidByText := true, laidKinds := [.data, .data, .pinned], laidTests := true, laidLooks := .later }
def FnExactTextVertexCardSaid : Prop := Claim7.holds Tryd.pinned (.plain (OpenSpec.ofChange fnExactTextVertexSpec)) fnExactTextVertexCard

/-- THE TIED CARD OF 'laws.FnExactTextAnswer'. -/
def fnExactTextAnswerCard : Claim7 := { stood := { row := fnExactTextAnswerRow, standIns := [], harness := (true, "6b09efe98e6cf35e19fa24e361f2659b34657f85283fa60ae1a16db1d0f5b792"), looks := false }, kinds := [], alts := [], laidByText := true, laidKinds := [.data, .data, .pinned], laidTests := true, laidLooks := .later }
def FnExactTextAnswerCardSaid : Prop := Claim7.holds Tryd.pinned (.plain (OpenSpec.ofChange fnExactTextAnswerSpec)) fnExactTextAnswerCard

/-- THE TIED CARD OF 'laws.FnExactVertexText'. -/
def fnExactVertexTextCard : Claim7 := { stood := { row := fnExactVertexTextRow, standIns := [], harness := (true, "6b09efe98e6cf35e19fa24e361f2659b34657f85283fa60ae1a16db1d0f5b792"), looks := false }, kinds := [], alts := [], laidByText := true, laidKinds := [.data, .data, .data, .data], laidTests := true, laidLooks := .later }
def FnExactVertexTextCardSaid : Prop := Claim7.holds Tryd.pinned (.plain (OpenSpec.ofChange fnExactVertexTextSpec)) fnExactVertexTextCard

/-- THE TIED CARD OF 'laws.FnExactGameText'. -/
def fnExactGameTextCard : Claim7 := { stood := { row := fnExactGameTextRow, standIns := [], harness := (true, "6b09efe98e6cf35e19fa24e361f2659b34657f85283fa60ae1a16db1d0f5b792"), looks := false }, kinds := [], alts := [], laidByText := true, laidKinds := [.data, .data, .data, .data], laidTests := true, laidLooks := .later }
def FnExactGameTextCardSaid : Prop := Claim7.holds Tryd.pinned (.plain (OpenSpec.ofChange fnExactGameTextSpec)) fnExactGameTextCard

/-- THE TIED CARD OF 'laws.FnExactTextGame'. -/
def fnExactTextGameCard : Claim7 := { stood := { row := fnExactTextGameRow, standIns := [], harness := (true, "6b09efe98e6cf35e19fa24e361f2659b34657f85283fa60ae1a16db1d0f5b792"), looks := false }, kinds := [], alts := [], laidByText := true, laidKinds := [.data, .data, .pinned], laidTests := true, laidLooks := .later }
def FnExactTextGameCardSaid : Prop := Claim7.holds Tryd.pinned (.plain (OpenSpec.ofChange fnExactTextGameSpec)) fnExactTextGameCard

/-- THE TIED CARD OF 'laws.FnVertexWords'. -/
def fnVertexWordsCard : Claim7 := { stood := { row := fnVertexWordsRow, standIns := [], harness := (true, "6b09efe98e6cf35e19fa24e361f2659b34657f85283fa60ae1a16db1d0f5b792"), looks := false }, kinds := [], alts := [], laidByText := true, laidKinds := [.data, .data, .data, .data, .data, .pinned], laidTests := true, laidLooks := .later }
def FnVertexWordsCardSaid : Prop := Claim7.holds Tryd.pinned (.plain (OpenSpec.ofChange fnVertexWordsSpec)) fnVertexWordsCard

/-- THE SECOND FORM's CARD OF 'laws.FnExactAnswerText'. -/
def fnExactAnswerTextUptoCard : Claim7 := { stood := { row := fnExactAnswerTextUptoRow, standIns := [], harness := (true, "6b09efe98e6cf35e19fa24e361f2659b34657f85283fa60ae1a16db1d0f5b792"), looks := false }, kinds := [], alts := [], laidByText := true, laidKinds := [.data, .data, .data, .data], laidTests := true, laidLooks := .later }
def FnExactAnswerTextUptoCardSaid : Prop := Claim7.holds Tryd.pinned (.plain (OpenSpec.upto fnExactAnswerTextSpec)) fnExactAnswerTextUptoCard

/-- THE SECOND FORM's CARD OF 'laws.FnExactPlanText'. -/
def fnExactPlanTextUptoCard : Claim7 := { stood := { row := fnExactPlanTextUptoRow, standIns := [], harness := (true, "6b09efe98e6cf35e19fa24e361f2659b34657f85283fa60ae1a16db1d0f5b792"), looks := false }, kinds := [], alts := [], laidByText := true, laidKinds := [.data, .data, .data], laidTests := true, laidLooks := .later }
def FnExactPlanTextUptoCardSaid : Prop := Claim7.holds Tryd.pinned (.plain (OpenSpec.upto fnExactPlanTextSpec)) fnExactPlanTextUptoCard

/-- THE SECOND FORM's CARD OF 'laws.FnExactTextPlan'. -/
def fnExactTextPlanUptoCard : Claim7 := { stood := { row := fnExactTextPlanUptoRow, standIns := [], harness := (true, "6b09efe98e6cf35e19fa24e361f2659b34657f85283fa60ae1a16db1d0f5b792"), looks := false }, kinds := [], alts := [], laidByText := true, laidKinds := [.data, .pinned], laidTests := true, laidLooks := .later }
def FnExactTextPlanUptoCardSaid : Prop := Claim7.holds Tryd.pinned (.plain (OpenSpec.upto fnExactTextPlanSpec)) fnExactTextPlanUptoCard

/-- THE SECOND FORM's CARD OF 'laws.FnExactTextVertex'. -/
def fnExactTextVertexUptoCard : Claim7 := { stood := { row := fnExactTextVertexUptoRow, standIns := [], harness := (true, "6b09efe98e6cf35e19fa24e361f2659b34657f85283fa60ae1a16db1d0f5b792"), looks := false }, kinds := [], alts := [], laidByText := true, laidKinds := [.data, .data, .pinned], laidTests := true, laidLooks := .later }
def FnExactTextVertexUptoCardSaid : Prop := Claim7.holds Tryd.pinned (.plain (OpenSpec.upto fnExactTextVertexSpec)) fnExactTextVertexUptoCard

/-- THE SECOND FORM's CARD OF 'laws.FnExactTextAnswer'. -/
def fnExactTextAnswerUptoCard : Claim7 := { stood := { row := fnExactTextAnswerUptoRow, standIns := [], harness := (true, "6b09efe98e6cf35e19fa24e361f2659b34657f85283fa60ae1a16db1d0f5b792"), looks := false }, kinds := [], alts := [], laidByText := true, laidKinds := [.data, .data, .pinned], laidTests := true, laidLooks := .later }
def FnExactTextAnswerUptoCardSaid : Prop := Claim7.holds Tryd.pinned (.plain (OpenSpec.upto fnExactTextAnswerSpec)) fnExactTextAnswerUptoCard

/-- THE SECOND FORM's CARD OF 'laws.FnExactVertexText'. -/
def fnExactVertexTextUptoCard : Claim7 := { stood := { row := fnExactVertexTextUptoRow, standIns := [], harness := (true, "6b09efe98e6cf35e19fa24e361f2659b34657f85283fa60ae1a16db1d0f5b792"), looks := false }, kinds := [], alts := [], laidByText := true, laidKinds := [.data, .data, .data, .data], laidTests := true, laidLooks := .later }
def FnExactVertexTextUptoCardSaid : Prop := Claim7.holds Tryd.pinned (.plain (OpenSpec.upto fnExactVertexTextSpec)) fnExactVertexTextUptoCard

/-- THE SECOND FORM's CARD OF 'laws.FnExactGameText'. -/
def fnExactGameTextUptoCard : Claim7 := { stood := { row := fnExactGameTextUptoRow, standIns := [], harness := (true, "6b09efe98e6cf35e19fa24e361f2659b34657f85283fa60ae1a16db1d0f5b792"), looks := false }, kinds := [], alts := [], laidByText := true, laidKinds := [.data, .data, .data, .data], laidTests := true, laidLooks := .later }
def FnExactGameTextUptoCardSaid : Prop := Claim7.holds Tryd.pinned (.plain (OpenSpec.upto fnExactGameTextSpec)) fnExactGameTextUptoCard

/-- THE SECOND FORM's CARD OF 'laws.FnExactTextGame'. -/
def fnExactTextGameUptoCard : Claim7 := { stood := { row := fnExactTextGameUptoRow, standIns := [], harness := (true, "6b09efe98e6cf35e19fa24e361f2659b34657f85283fa60ae1a16db1d0f5b792"), looks := false }, kinds := [], alts := [], laidByText := true, laidKinds := [.data, .data, .pinned], laidTests := true, laidLooks := .later }
def FnExactTextGameUptoCardSaid : Prop := Claim7.holds Tryd.pinned (.plain (OpenSpec.upto fnExactTextGameSpec)) fnExactTextGameUptoCard

/-- THE SECOND FORM's CARD OF 'laws.FnVertexWords'. -/
def fnVertexWordsUptoCard : Claim7 := { stood := { row := fnVertexWordsUptoRow, standIns := [], harness := (true, "6b09efe98e6cf35e19fa24e361f2659b34657f85283fa60ae1a16db1d0f5b792"), looks := false }, kinds := [], alts := [], laidByText := true, laidKinds := [.data, .data, .data, .data, .data, .pinned], laidTests := true, laidLooks := .later }
def FnVertexWordsUptoCardSaid : Prop := Claim7.holds Tryd.pinned (.plain (OpenSpec.upto fnVertexWordsSpec)) fnVertexWordsUptoCard
end Rows
end Go.Proofs.YtkhkdnmpbfmmeaaDoor
