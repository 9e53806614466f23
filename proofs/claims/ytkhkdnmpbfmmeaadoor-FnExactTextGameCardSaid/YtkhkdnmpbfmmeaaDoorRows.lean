/-
  NARROWER THAN 'FOR EVERY INPUT', by the rows' own cells (each row's printed sentence says how): FnExactAnswerText: laid · FnExactPlanText: laid · FnExactTextPlan: laid · FnExactTextVertex: laid · FnExactTextAnswer: laid · FnExactVertexText: laid · FnExactGameText: laid · FnExactTextGame: laid · FnVertexWords: laid.
  DERIVED. THE GIVEN ROWS OF THIS SEAT. 9 by the template 'for every input the law returns true; each argument reads behind the call as it read before'; 0 by the template 'total and deterministic' (their statements: YtkhkdnmpbfmmeaaDoorTotals.lean).
  GIVEN WITH THE SEED: the statements are not yours to turn. If you find one false, say at which input.
  Laid BY PROGRAM, IN A SANDBOX (cutbox-rows.mjs): the forced cells as the released guide's own fill.sh prints them over the translation adc96790f91f6bc5… (all of the seat's roots in one cut). By AI agents, Wed Nov 11 2026. No macro, syntax, notation, axiom, sorry.
-/
import Derived.Test.YtkhkdnmpbfmmeaaDoorChecked
import GoSem.PinnedTables
import GoSem.Claim
import GoSem.ClaimJoined
import GoSem.ClaimMapViews
import Derived.JoinedTies
import Derived.KernelRfl
namespace Go.Proofs.YtkhkdnmpbfmmeaaDoor
/- THE CELL 'sum', in the pinned program and in every row, IS THE sha256 OF THE DUMP (.gsa) THAT YtkhkdnmpbfmmeaaDoorProg.lean LOADS. Nothing in Lean hashes anything: it is a label: what it is worth is what the hold of that sum in a sandbox is worth. -/
noncomputable def Tryd.pinned : Pinned := { name := "ytkhkdnmpbfmmeaadoor", sum := "adc96790f91f6bc508cc6e6470afc873185f152a6f8412c26ee19365ec398b7b", checked := Tryd.checked }
namespace Rows
def none {H : Type} : Left H := { results := [], args := [] }

/- WHAT THE LISTED PACKAGE-LEVEL VARIABLES READ AS WHEN THE CALL BEGINS. Each datum BY PROGRAM (the guide's laid-datum.mjs) off the statement by which the dump's own 'gosem.cut.vars' lays the variable. In a bare row this is a premise. The card (YtkhkdnmpbfmmeaaDoorCards.lean) ties it to the program's text. -/
def laid_math_bits_deBruijn32tab {H : Type} : DataW H := .agg [.lit (.int .u8 0), .lit (.int .u8 1), .lit (.int .u8 28), .lit (.int .u8 2), .lit (.int .u8 29), .lit (.int .u8 14), .lit (.int .u8 24), .lit (.int .u8 3), .lit (.int .u8 30), .lit (.int .u8 22), .lit (.int .u8 20), .lit (.int .u8 15), .lit (.int .u8 25), .lit (.int .u8 17), .lit (.int .u8 4), .lit (.int .u8 8), .lit (.int .u8 31), .lit (.int .u8 27), .lit (.int .u8 13), .lit (.int .u8 23), .lit (.int .u8 21), .lit (.int .u8 19), .lit (.int .u8 16), .lit (.int .u8 7), .lit (.int .u8 26), .lit (.int .u8 12), .lit (.int .u8 18), .lit (.int .u8 6), .lit (.int .u8 11), .lit (.int .u8 5), .lit (.int .u8 10), .lit (.int .u8 9)]
def laid_math_bits_deBruijn64tab {H : Type} : DataW H := .agg [.lit (.int .u8 0), .lit (.int .u8 1), .lit (.int .u8 56), .lit (.int .u8 2), .lit (.int .u8 57), .lit (.int .u8 49), .lit (.int .u8 28), .lit (.int .u8 3), .lit (.int .u8 61), .lit (.int .u8 58), .lit (.int .u8 42), .lit (.int .u8 50), .lit (.int .u8 38), .lit (.int .u8 29), .lit (.int .u8 17), .lit (.int .u8 4), .lit (.int .u8 62), .lit (.int .u8 47), .lit (.int .u8 59), .lit (.int .u8 36), .lit (.int .u8 45), .lit (.int .u8 43), .lit (.int .u8 51), .lit (.int .u8 22), .lit (.int .u8 53), .lit (.int .u8 39), .lit (.int .u8 33), .lit (.int .u8 30), .lit (.int .u8 24), .lit (.int .u8 18), .lit (.int .u8 12), .lit (.int .u8 5), .lit (.int .u8 63), .lit (.int .u8 55), .lit (.int .u8 48), .lit (.int .u8 27), .lit (.int .u8 60), .lit (.int .u8 41), .lit (.int .u8 37), .lit (.int .u8 16), .lit (.int .u8 46), .lit (.int .u8 35), .lit (.int .u8 44), .lit (.int .u8 21), .lit (.int .u8 52), .lit (.int .u8 32), .lit (.int .u8 23), .lit (.int .u8 11), .lit (.int .u8 54), .lit (.int .u8 26), .lit (.int .u8 40), .lit (.int .u8 15), .lit (.int .u8 34), .lit (.int .u8 20), .lit (.int .u8 31), .lit (.int .u8 10), .lit (.int .u8 25), .lit (.int .u8 14), .lit (.int .u8 19), .lit (.int .u8 9), .lit (.int .u8 13), .lit (.int .u8 8), .lit (.int .u8 7), .lit (.int .u8 6)]
def laid_internal_strconv_uint64pow10 {H : Type} : DataW H := .agg [.lit (.int .u64 1), .lit (.int .u64 10), .lit (.int .u64 100), .lit (.int .u64 1000), .lit (.int .u64 10000), .lit (.int .u64 100000), .lit (.int .u64 1000000), .lit (.int .u64 10000000), .lit (.int .u64 100000000), .lit (.int .u64 1000000000), .lit (.int .u64 10000000000), .lit (.int .u64 100000000000), .lit (.int .u64 1000000000000), .lit (.int .u64 10000000000000), .lit (.int .u64 100000000000000), .lit (.int .u64 1000000000000000), .lit (.int .u64 10000000000000000), .lit (.int .u64 100000000000000000), .lit (.int .u64 1000000000000000000), .lit (.int .u64 10000000000000000000)]
def laid_loop_example_g00869_impl_playerNames {H : Type} : DataW H := .agg [.lit (.string [101, 118, 101, 110]), .lit (.string [111, 100, 100])]
def laid_unicode_utf8_acceptRanges {H : Type} : DataW H := .agg [.agg [.lit (.int .u8 128), .lit (.int .u8 191)], .agg [.lit (.int .u8 160), .lit (.int .u8 191)], .agg [.lit (.int .u8 128), .lit (.int .u8 159)], .agg [.lit (.int .u8 144), .lit (.int .u8 191)], .agg [.lit (.int .u8 128), .lit (.int .u8 143)], .agg [.lit (.int .u8 0), .lit (.int .u8 0)], .agg [.lit (.int .u8 0), .lit (.int .u8 0)], .agg [.lit (.int .u8 0), .lit (.int .u8 0)], .agg [.lit (.int .u8 0), .lit (.int .u8 0)], .agg [.lit (.int .u8 0), .lit (.int .u8 0)], .agg [.lit (.int .u8 0), .lit (.int .u8 0)], .agg [.lit (.int .u8 0), .lit (.int .u8 0)], .agg [.lit (.int .u8 0), .lit (.int .u8 0)], .agg [.lit (.int .u8 0), .lit (.int .u8 0)], .agg [.lit (.int .u8 0), .lit (.int .u8 0)], .agg [.lit (.int .u8 0), .lit (.int .u8 0)]]
/-- One of Go's own tables, pinned by name: the form's constant. -/
def laid_unicode_utf8_first : DataW Unit := Go.Pinned.utf8First

/-- 'laws.FnExactAnswerText': WHATEVER THE INPUT: true; the input reads as it did. -/
def fnExactAnswerTextSpec : ChangeSpec := { name := "fnExactAnswerText", vars := ["loop.example/g00869/impl.playerNames"], fn := fun _ => fun
  | [d, g1] => { results := [.lit (.bool true)], args := [d], vars := [g1] }
  | _ => none }
def fnExactAnswerTextRow : OpenClaim := { program := "ytkhkdnmpbfmmeaadoor", sum := "adc96790f91f6bc508cc6e6470afc873185f152a6f8412c26ee19365ec398b7b", func := "loop.example/g00869/laws.FnExactAnswerText", spec := "fnExactAnswerText", named := ["loop.example/g00869/impl.playerNames", "internal/strconv.uint64pow10", "math/bits.deBruijn32tab", "math/bits.deBruijn64tab"], apart := false, laid := [("math/bits.deBruijn32tab", laid_math_bits_deBruijn32tab), ("math/bits.deBruijn64tab", laid_math_bits_deBruijn64tab), ("internal/strconv.uint64pow10", laid_internal_strconv_uint64pow10), ("loop.example/g00869/impl.playerNames", laid_loop_example_g00869_impl_playerNames)] }
def FnExactAnswerTextSaid : Prop := fnExactAnswerTextRow.holds Tryd.pinned (OpenSpec.ofChange fnExactAnswerTextSpec)

/-- ITS FALSE NEIGHBOUR: 'it returns false'. Refute it at one input. -/
def fnExactAnswerTextWrong : ChangeSpec := { name := "fnExactAnswerText", vars := ["loop.example/g00869/impl.playerNames"], fn := fun _ => fun
  | [d, g1] => { results := [.lit (.bool false)], args := [d], vars := [g1] }
  | _ => none }
def FnExactAnswerTextWrongFalsely : Prop := fnExactAnswerTextRow.holds Tryd.pinned (OpenSpec.ofChange fnExactAnswerTextWrong)

/-- 'laws.FnExactPlanText': WHATEVER THE INPUT: true; the input reads as it did. -/
def fnExactPlanTextSpec : ChangeSpec := { name := "fnExactPlanText", fn := fun _ => fun
  | [d] => { results := [.lit (.bool true)], args := [d] }
  | _ => none }
def fnExactPlanTextRow : OpenClaim := { program := "ytkhkdnmpbfmmeaadoor", sum := "adc96790f91f6bc508cc6e6470afc873185f152a6f8412c26ee19365ec398b7b", func := "loop.example/g00869/laws.FnExactPlanText", spec := "fnExactPlanText", inPlace := ["internal/abi.NoEscape", "internal/bytealg.MakeNoZero"], named := ["internal/strconv.uint64pow10", "math/bits.deBruijn32tab", "math/bits.deBruijn64tab"], apart := false, laid := [("math/bits.deBruijn32tab", laid_math_bits_deBruijn32tab), ("math/bits.deBruijn64tab", laid_math_bits_deBruijn64tab), ("internal/strconv.uint64pow10", laid_internal_strconv_uint64pow10)] }
def FnExactPlanTextSaid : Prop := fnExactPlanTextRow.holds Tryd.pinned (OpenSpec.ofChange fnExactPlanTextSpec)

/-- ITS FALSE NEIGHBOUR: 'it returns false'. Refute it at one input. -/
def fnExactPlanTextWrong : ChangeSpec := { name := "fnExactPlanText", fn := fun _ => fun
  | [d] => { results := [.lit (.bool false)], args := [d] }
  | _ => none }
def FnExactPlanTextWrongFalsely : Prop := fnExactPlanTextRow.holds Tryd.pinned (OpenSpec.ofChange fnExactPlanTextWrong)

/-- 'laws.FnExactTextPlan': WHATEVER THE INPUT: true; the input reads as it did. -/
def fnExactTextPlanSpec : ChangeSpec := { name := "fnExactTextPlan", fn := fun _ => fun
  | [d] => { results := [.lit (.bool true)], args := [d] }
  | _ => none }
def fnExactTextPlanRow : OpenClaim := { program := "ytkhkdnmpbfmmeaadoor", sum := "adc96790f91f6bc508cc6e6470afc873185f152a6f8412c26ee19365ec398b7b", func := "loop.example/g00869/laws.FnExactTextPlan", spec := "fnExactTextPlan", inPlace := ["internal/bytealg.CountString", "internal/bytealg.IndexByteString", "internal/bytealg.IndexString"], named := ["unicode/utf8.first", "unicode/utf8.acceptRanges", "internal/bytealg.MaxLen"], apart := false, laid := [("unicode/utf8.acceptRanges", laid_unicode_utf8_acceptRanges), ("unicode/utf8.first", laid_unicode_utf8_first)] }
def FnExactTextPlanSaid : Prop := fnExactTextPlanRow.holds Tryd.pinned (OpenSpec.ofChange fnExactTextPlanSpec)

/-- ITS FALSE NEIGHBOUR: 'it returns false'. Refute it at one input. -/
def fnExactTextPlanWrong : ChangeSpec := { name := "fnExactTextPlan", fn := fun _ => fun
  | [d] => { results := [.lit (.bool false)], args := [d] }
  | _ => none }
def FnExactTextPlanWrongFalsely : Prop := fnExactTextPlanRow.holds Tryd.pinned (OpenSpec.ofChange fnExactTextPlanWrong)

/-- 'laws.FnExactTextVertex': WHATEVER THE INPUT: true; the input reads as it did. -/
def fnExactTextVertexSpec : ChangeSpec := { name := "fnExactTextVertex", vars := ["loop.example/g00869/impl.playerNames"], fn := fun _ => fun
  | [d1, d2, g1] => { results := [.lit (.bool true)], args := [d1, d2], vars := [g1] }
  | _ => none }
def fnExactTextVertexRow : OpenClaim := { program := "ytkhkdnmpbfmmeaadoor", sum := "adc96790f91f6bc508cc6e6470afc873185f152a6f8412c26ee19365ec398b7b", func := "loop.example/g00869/laws.FnExactTextVertex", spec := "fnExactTextVertex", inPlace := ["internal/bytealg.CountString", "internal/bytealg.IndexByteString", "internal/bytealg.IndexString"], named := ["unicode/utf8.first", "unicode/utf8.acceptRanges", "internal/bytealg.MaxLen", "loop.example/g00869/impl.playerNames"], apart := false, laid := [("unicode/utf8.acceptRanges", laid_unicode_utf8_acceptRanges), ("loop.example/g00869/impl.playerNames", laid_loop_example_g00869_impl_playerNames), ("unicode/utf8.first", laid_unicode_utf8_first)] }
def FnExactTextVertexSaid : Prop := fnExactTextVertexRow.holds Tryd.pinned (OpenSpec.ofChange fnExactTextVertexSpec)

/-- ITS FALSE NEIGHBOUR: 'it returns false'. Refute it at one input. -/
def fnExactTextVertexWrong : ChangeSpec := { name := "fnExactTextVertex", vars := ["loop.example/g00869/impl.playerNames"], fn := fun _ => fun
  | [d1, d2, g1] => { results := [.lit (.bool false)], args := [d1, d2], vars := [g1] }
  | _ => none }
def FnExactTextVertexWrongFalsely : Prop := fnExactTextVertexRow.holds Tryd.pinned (OpenSpec.ofChange fnExactTextVertexWrong)

/-- 'laws.FnExactTextAnswer': WHATEVER THE INPUT: true; the input reads as it did. -/
def fnExactTextAnswerSpec : ChangeSpec := { name := "fnExactTextAnswer", vars := ["loop.example/g00869/impl.playerNames"], fn := fun _ => fun
  | [d, g1] => { results := [.lit (.bool true)], args := [d], vars := [g1] }
  | _ => none }
def fnExactTextAnswerRow : OpenClaim := { program := "ytkhkdnmpbfmmeaadoor", sum := "adc96790f91f6bc508cc6e6470afc873185f152a6f8412c26ee19365ec398b7b", func := "loop.example/g00869/laws.FnExactTextAnswer", spec := "fnExactTextAnswer", inPlace := ["internal/bytealg.CountString", "internal/bytealg.IndexByteString", "internal/bytealg.IndexString"], named := ["unicode/utf8.first", "unicode/utf8.acceptRanges", "internal/bytealg.MaxLen", "loop.example/g00869/impl.playerNames"], apart := false, laid := [("unicode/utf8.acceptRanges", laid_unicode_utf8_acceptRanges), ("loop.example/g00869/impl.playerNames", laid_loop_example_g00869_impl_playerNames), ("unicode/utf8.first", laid_unicode_utf8_first)] }
def FnExactTextAnswerSaid : Prop := fnExactTextAnswerRow.holds Tryd.pinned (OpenSpec.ofChange fnExactTextAnswerSpec)

/-- ITS FALSE NEIGHBOUR: 'it returns false'. Refute it at one input. -/
def fnExactTextAnswerWrong : ChangeSpec := { name := "fnExactTextAnswer", vars := ["loop.example/g00869/impl.playerNames"], fn := fun _ => fun
  | [d, g1] => { results := [.lit (.bool false)], args := [d], vars := [g1] }
  | _ => none }
def FnExactTextAnswerWrongFalsely : Prop := fnExactTextAnswerRow.holds Tryd.pinned (OpenSpec.ofChange fnExactTextAnswerWrong)

/-- 'laws.FnExactVertexText': WHATEVER THE INPUT: true; the input reads as it did. -/
def fnExactVertexTextSpec : ChangeSpec := { name := "fnExactVertexText", vars := ["loop.example/g00869/impl.playerNames"], fn := fun _ => fun
  | [d1, d2, g1] => { results := [.lit (.bool true)], args := [d1, d2], vars := [g1] }
  | _ => none }
def fnExactVertexTextRow : OpenClaim := { program := "ytkhkdnmpbfmmeaadoor", sum := "adc96790f91f6bc508cc6e6470afc873185f152a6f8412c26ee19365ec398b7b", func := "loop.example/g00869/laws.FnExactVertexText", spec := "fnExactVertexText", named := ["loop.example/g00869/impl.playerNames", "internal/strconv.uint64pow10", "math/bits.deBruijn32tab", "math/bits.deBruijn64tab"], apart := false, laid := [("math/bits.deBruijn32tab", laid_math_bits_deBruijn32tab), ("math/bits.deBruijn64tab", laid_math_bits_deBruijn64tab), ("internal/strconv.uint64pow10", laid_internal_strconv_uint64pow10), ("loop.example/g00869/impl.playerNames", laid_loop_example_g00869_impl_playerNames)] }
def FnExactVertexTextSaid : Prop := fnExactVertexTextRow.holds Tryd.pinned (OpenSpec.ofChange fnExactVertexTextSpec)

/-- ITS FALSE NEIGHBOUR: 'it returns false'. Refute it at one input. -/
def fnExactVertexTextWrong : ChangeSpec := { name := "fnExactVertexText", vars := ["loop.example/g00869/impl.playerNames"], fn := fun _ => fun
  | [d1, d2, g1] => { results := [.lit (.bool false)], args := [d1, d2], vars := [g1] }
  | _ => none }
def FnExactVertexTextWrongFalsely : Prop := fnExactVertexTextRow.holds Tryd.pinned (OpenSpec.ofChange fnExactVertexTextWrong)

/-- 'laws.FnExactGameText': WHATEVER THE INPUT: true; the input reads as it did. -/
def fnExactGameTextSpec : ChangeSpec := { name := "fnExactGameText", vars := ["loop.example/g00869/impl.playerNames"], fn := fun _ => fun
  | [d, g1] => { results := [.lit (.bool true)], args := [d], vars := [g1] }
  | _ => none }
def fnExactGameTextRow : OpenClaim := { program := "ytkhkdnmpbfmmeaadoor", sum := "adc96790f91f6bc508cc6e6470afc873185f152a6f8412c26ee19365ec398b7b", func := "loop.example/g00869/laws.FnExactGameText", spec := "fnExactGameText", named := ["internal/strconv.uint64pow10", "math/bits.deBruijn32tab", "math/bits.deBruijn64tab", "loop.example/g00869/impl.playerNames"], apart := false, laid := [("math/bits.deBruijn32tab", laid_math_bits_deBruijn32tab), ("math/bits.deBruijn64tab", laid_math_bits_deBruijn64tab), ("internal/strconv.uint64pow10", laid_internal_strconv_uint64pow10), ("loop.example/g00869/impl.playerNames", laid_loop_example_g00869_impl_playerNames)] }
def FnExactGameTextSaid : Prop := fnExactGameTextRow.holds Tryd.pinned (OpenSpec.ofChange fnExactGameTextSpec)

/-- ITS FALSE NEIGHBOUR: 'it returns false'. Refute it at one input. -/
def fnExactGameTextWrong : ChangeSpec := { name := "fnExactGameText", vars := ["loop.example/g00869/impl.playerNames"], fn := fun _ => fun
  | [d, g1] => { results := [.lit (.bool false)], args := [d], vars := [g1] }
  | _ => none }
def FnExactGameTextWrongFalsely : Prop := fnExactGameTextRow.holds Tryd.pinned (OpenSpec.ofChange fnExactGameTextWrong)

/-- 'laws.FnExactTextGame': WHATEVER THE INPUT: true; the input reads as it did. -/
def fnExactTextGameSpec : ChangeSpec := { name := "fnExactTextGame", vars := ["loop.example/g00869/impl.playerNames"], fn := fun _ => fun
  | [d, g1] => { results := [.lit (.bool true)], args := [d], vars := [g1] }
  | _ => none }
def fnExactTextGameRow : OpenClaim := { program := "ytkhkdnmpbfmmeaadoor", sum := "adc96790f91f6bc508cc6e6470afc873185f152a6f8412c26ee19365ec398b7b", func := "loop.example/g00869/laws.FnExactTextGame", spec := "fnExactTextGame", inPlace := ["internal/bytealg.CountString", "internal/bytealg.IndexByteString", "internal/bytealg.IndexString"], named := ["unicode/utf8.first", "unicode/utf8.acceptRanges", "internal/bytealg.MaxLen", "loop.example/g00869/impl.playerNames"], apart := false, laid := [("unicode/utf8.acceptRanges", laid_unicode_utf8_acceptRanges), ("loop.example/g00869/impl.playerNames", laid_loop_example_g00869_impl_playerNames), ("unicode/utf8.first", laid_unicode_utf8_first)] }
def FnExactTextGameSaid : Prop := fnExactTextGameRow.holds Tryd.pinned (OpenSpec.ofChange fnExactTextGameSpec)

/-- ITS FALSE NEIGHBOUR: 'it returns false'. Refute it at one input. -/
def fnExactTextGameWrong : ChangeSpec := { name := "fnExactTextGame", vars := ["loop.example/g00869/impl.playerNames"], fn := fun _ => fun
  | [d, g1] => { results := [.lit (.bool false)], args := [d], vars := [g1] }
  | _ => none }
def FnExactTextGameWrongFalsely : Prop := fnExactTextGameRow.holds Tryd.pinned (OpenSpec.ofChange fnExactTextGameWrong)

/-- 'laws.FnVertexWords': WHATEVER THE INPUT: true; the input reads as it did. -/
def fnVertexWordsSpec : ChangeSpec := { name := "fnVertexWords", vars := ["loop.example/g00869/impl.playerNames"], fn := fun _ => fun
  | [d, g1] => { results := [.lit (.bool true)], args := [d], vars := [g1] }
  | _ => none }
def fnVertexWordsRow : OpenClaim := { program := "ytkhkdnmpbfmmeaadoor", sum := "adc96790f91f6bc508cc6e6470afc873185f152a6f8412c26ee19365ec398b7b", func := "loop.example/g00869/laws.FnVertexWords", spec := "fnVertexWords", inPlace := ["internal/bytealg.CountString", "internal/bytealg.IndexByteString", "internal/bytealg.IndexString"], named := ["loop.example/g00869/impl.playerNames", "internal/strconv.uint64pow10", "math/bits.deBruijn32tab", "math/bits.deBruijn64tab", "unicode/utf8.first", "unicode/utf8.acceptRanges", "internal/bytealg.MaxLen"], apart := false, laid := [("math/bits.deBruijn32tab", laid_math_bits_deBruijn32tab), ("math/bits.deBruijn64tab", laid_math_bits_deBruijn64tab), ("internal/strconv.uint64pow10", laid_internal_strconv_uint64pow10), ("unicode/utf8.acceptRanges", laid_unicode_utf8_acceptRanges), ("loop.example/g00869/impl.playerNames", laid_loop_example_g00869_impl_playerNames), ("unicode/utf8.first", laid_unicode_utf8_first)] }
def FnVertexWordsSaid : Prop := fnVertexWordsRow.holds Tryd.pinned (OpenSpec.ofChange fnVertexWordsSpec)

/-- ITS FALSE NEIGHBOUR: 'it returns false'. Refute it at one input. -/
def fnVertexWordsWrong : ChangeSpec := { name := "fnVertexWords", vars := ["loop.example/g00869/impl.playerNames"], fn := fun _ => fun
  | [d, g1] => { results := [.lit (.bool false)], args := [d], vars := [g1] }
  | _ => none }
def FnVertexWordsWrongFalsely : Prop := fnVertexWordsRow.holds Tryd.pinned (OpenSpec.ofChange fnVertexWordsWrong)

/- THE SECOND FORM. 'bulk': how many values and letters a reading holds, each counted each time it is reached (what is shared counts as often as it is met; a slice's spare places count too). A statement '..UptoSaid' is the law's where the arguments, and the package variables that the reading takes, are together of bulk at most 1048576: NARROWER than '..Said'. Prove '..Said' where nothing that the law and all that it calls make is longer than what came in: it says more and counts as full. Else prove '..UptoSaid'. A law counts once. -/
mutual
def uptoBulk {H : Type} : DataW H → Nat
  | .lit (.string bytes) => bytes.length + 1
  | .lit _ => 1
  | .nil => 1
  | .ptr d => uptoBulk d + 1
  | .slice elems spare => uptoBulkAll elems + uptoBulkAll spare + 1
  | .agg parts => uptoBulkAll parts + 1
  | .iface _ d => uptoBulk d + 1
  | .map entries => uptoBulkEntries entries + 1
  | .held _ => 1
def uptoBulkAll {H : Type} : List (DataW H) → Nat
  | [] => 0
  | d :: r => uptoBulk d + uptoBulkAll r
def uptoBulkEntries {H : Type} : List (Lit × DataW H) → Nat
  | [] => 0
  | x :: r => uptoBulkEntry x + uptoBulkEntries r
def uptoBulkEntry {H : Type} : Lit × DataW H → Nat
  | (.string bytes, d) => bytes.length + uptoBulk d + 1
  | (_, d) => uptoBulk d + 1
 end
def uptoSmall : (H : Type) → List (DataW H) → Bool := fun _ ds => decide (uptoBulkAll ds ≤ 1048576)
def OpenSpec.upto (s : _root_.Go.ChangeSpec) : _root_.Go.OpenSpec := { _root_.Go.OpenSpec.ofChange s with cond := some uptoSmall }

/-- 'laws.FnExactAnswerText', WHERE WHAT IT READS IS OF BULK AT MOST 1048576: true; the input reads as it did. -/
def fnExactAnswerTextUptoRow : OpenClaim := { program := "ytkhkdnmpbfmmeaadoor", sum := "adc96790f91f6bc508cc6e6470afc873185f152a6f8412c26ee19365ec398b7b", func := "loop.example/g00869/laws.FnExactAnswerText", spec := "fnExactAnswerText", named := ["loop.example/g00869/impl.playerNames", "internal/strconv.uint64pow10", "math/bits.deBruijn32tab", "math/bits.deBruijn64tab"], apart := false, laid := [("math/bits.deBruijn32tab", laid_math_bits_deBruijn32tab), ("math/bits.deBruijn64tab", laid_math_bits_deBruijn64tab), ("internal/strconv.uint64pow10", laid_internal_strconv_uint64pow10), ("loop.example/g00869/impl.playerNames", laid_loop_example_g00869_impl_playerNames)], narrowed := true }
def FnExactAnswerTextUptoSaid : Prop := fnExactAnswerTextUptoRow.holds Tryd.pinned (OpenSpec.upto fnExactAnswerTextSpec)

/-- 'laws.FnExactPlanText', WHERE WHAT IT READS IS OF BULK AT MOST 1048576: true; the input reads as it did. -/
def fnExactPlanTextUptoRow : OpenClaim := { program := "ytkhkdnmpbfmmeaadoor", sum := "adc96790f91f6bc508cc6e6470afc873185f152a6f8412c26ee19365ec398b7b", func := "loop.example/g00869/laws.FnExactPlanText", spec := "fnExactPlanText", inPlace := ["internal/abi.NoEscape", "internal/bytealg.MakeNoZero"], named := ["internal/strconv.uint64pow10", "math/bits.deBruijn32tab", "math/bits.deBruijn64tab"], apart := false, laid := [("math/bits.deBruijn32tab", laid_math_bits_deBruijn32tab), ("math/bits.deBruijn64tab", laid_math_bits_deBruijn64tab), ("internal/strconv.uint64pow10", laid_internal_strconv_uint64pow10)], narrowed := true }
def FnExactPlanTextUptoSaid : Prop := fnExactPlanTextUptoRow.holds Tryd.pinned (OpenSpec.upto fnExactPlanTextSpec)

/-- 'laws.FnExactTextPlan', WHERE WHAT IT READS IS OF BULK AT MOST 1048576: true; the input reads as it did. -/
def fnExactTextPlanUptoRow : OpenClaim := { program := "ytkhkdnmpbfmmeaadoor", sum := "adc96790f91f6bc508cc6e6470afc873185f152a6f8412c26ee19365ec398b7b", func := "loop.example/g00869/laws.FnExactTextPlan", spec := "fnExactTextPlan", inPlace := ["internal/bytealg.CountString", "internal/bytealg.IndexByteString", "internal/bytealg.IndexString"], named := ["unicode/utf8.first", "unicode/utf8.acceptRanges", "internal/bytealg.MaxLen"], apart := false, laid := [("unicode/utf8.acceptRanges", laid_unicode_utf8_acceptRanges), ("unicode/utf8.first", laid_unicode_utf8_first)], narrowed := true }
def FnExactTextPlanUptoSaid : Prop := fnExactTextPlanUptoRow.holds Tryd.pinned (OpenSpec.upto fnExactTextPlanSpec)

/-- 'laws.FnExactTextVertex', WHERE WHAT IT READS IS OF BULK AT MOST 1048576: true; the input reads as it did. -/
def fnExactTextVertexUptoRow : OpenClaim := { program := "ytkhkdnmpbfmmeaadoor", sum := "adc96790f91f6bc508cc6e6470afc873185f152a6f8412c26ee19365ec398b7b", func := "loop.example/g00869/laws.FnExactTextVertex", spec := "fnExactTextVertex", inPlace := ["internal/bytealg.CountString", "internal/bytealg.IndexByteString", "internal/bytealg.IndexString"], named := ["unicode/utf8.first", "unicode/utf8.acceptRanges", "internal/bytealg.MaxLen", "loop.example/g00869/impl.playerNames"], apart := false, laid := [("unicode/utf8.acceptRanges", laid_unicode_utf8_acceptRanges), ("loop.example/g00869/impl.playerNames", laid_loop_example_g00869_impl_playerNames), ("unicode/utf8.first", laid_unicode_utf8_first)], narrowed := true }
def FnExactTextVertexUptoSaid : Prop := fnExactTextVertexUptoRow.holds Tryd.pinned (OpenSpec.upto fnExactTextVertexSpec)

/-- 'laws.FnExactTextAnswer', WHERE WHAT IT READS IS OF BULK AT MOST 1048576: true; the input reads as it did. -/
def fnExactTextAnswerUptoRow : OpenClaim := { program := "ytkhkdnmpbfmmeaadoor", sum := "adc96790f91f6bc508cc6e6470afc873185f152a6f8412c26ee19365ec398b7b", func := "loop.example/g00869/laws.FnExactTextAnswer", spec := "fnExactTextAnswer", inPlace := ["internal/bytealg.CountString", "internal/bytealg.IndexByteString", "internal/bytealg.IndexString"], named := ["unicode/utf8.first", "unicode/utf8.acceptRanges", "internal/bytealg.MaxLen", "loop.example/g00869/impl.playerNames"], apart := false, laid := [("unicode/utf8.acceptRanges", laid_unicode_utf8_acceptRanges), ("loop.example/g00869/impl.playerNames", laid_loop_example_g00869_impl_playerNames), ("unicode/utf8.first", laid_unicode_utf8_first)], narrowed := true }
def FnExactTextAnswerUptoSaid : Prop := fnExactTextAnswerUptoRow.holds Tryd.pinned (OpenSpec.upto fnExactTextAnswerSpec)

/-- 'laws.FnExactVertexText', WHERE WHAT IT READS IS OF BULK AT MOST 1048576: true; the input reads as it did. -/
def fnExactVertexTextUptoRow : OpenClaim := { program := "ytkhkdnmpbfmmeaadoor", sum := "adc96790f91f6bc508cc6e6470afc873185f152a6f8412c26ee19365ec398b7b", func := "loop.example/g00869/laws.FnExactVertexText", spec := "fnExactVertexText", named := ["loop.example/g00869/impl.playerNames", "internal/strconv.uint64pow10", "math/bits.deBruijn32tab", "math/bits.deBruijn64tab"], apart := false, laid := [("math/bits.deBruijn32tab", laid_math_bits_deBruijn32tab), ("math/bits.deBruijn64tab", laid_math_bits_deBruijn64tab), ("internal/strconv.uint64pow10", laid_internal_strconv_uint64pow10), ("loop.example/g00869/impl.playerNames", laid_loop_example_g00869_impl_playerNames)], narrowed := true }
def FnExactVertexTextUptoSaid : Prop := fnExactVertexTextUptoRow.holds Tryd.pinned (OpenSpec.upto fnExactVertexTextSpec)

/-- 'laws.FnExactGameText', WHERE WHAT IT READS IS OF BULK AT MOST 1048576: true; the input reads as it did. -/
def fnExactGameTextUptoRow : OpenClaim := { program := "ytkhkdnmpbfmmeaadoor", sum := "adc96790f91f6bc508cc6e6470afc873185f152a6f8412c26ee19365ec398b7b", func := "loop.example/g00869/laws.FnExactGameText", spec := "fnExactGameText", named := ["internal/strconv.uint64pow10", "math/bits.deBruijn32tab", "math/bits.deBruijn64tab", "loop.example/g00869/impl.playerNames"], apart := false, laid := [("math/bits.deBruijn32tab", laid_math_bits_deBruijn32tab), ("math/bits.deBruijn64tab", laid_math_bits_deBruijn64tab), ("internal/strconv.uint64pow10", laid_internal_strconv_uint64pow10), ("loop.example/g00869/impl.playerNames", laid_loop_example_g00869_impl_playerNames)], narrowed := true }
def FnExactGameTextUptoSaid : Prop := fnExactGameTextUptoRow.holds Tryd.pinned (OpenSpec.upto fnExactGameTextSpec)

/-- 'laws.FnExactTextGame', WHERE WHAT IT READS IS OF BULK AT MOST 1048576: true; the input reads as it did. -/
def fnExactTextGameUptoRow : OpenClaim := { program := "ytkhkdnmpbfmmeaadoor", sum := "adc96790f91f6bc508cc6e6470afc873185f152a6f8412c26ee19365ec398b7b", func := "loop.example/g00869/laws.FnExactTextGame", spec := "fnExactTextGame", inPlace := ["internal/bytealg.CountString", "internal/bytealg.IndexByteString", "internal/bytealg.IndexString"], named := ["unicode/utf8.first", "unicode/utf8.acceptRanges", "internal/bytealg.MaxLen", "loop.example/g00869/impl.playerNames"], apart := false, laid := [("unicode/utf8.acceptRanges", laid_unicode_utf8_acceptRanges), ("loop.example/g00869/impl.playerNames", laid_loop_example_g00869_impl_playerNames), ("unicode/utf8.first", laid_unicode_utf8_first)], narrowed := true }
def FnExactTextGameUptoSaid : Prop := fnExactTextGameUptoRow.holds Tryd.pinned (OpenSpec.upto fnExactTextGameSpec)

/-- 'laws.FnVertexWords', WHERE WHAT IT READS IS OF BULK AT MOST 1048576: true; the input reads as it did. -/
def fnVertexWordsUptoRow : OpenClaim := { program := "ytkhkdnmpbfmmeaadoor", sum := "adc96790f91f6bc508cc6e6470afc873185f152a6f8412c26ee19365ec398b7b", func := "loop.example/g00869/laws.FnVertexWords", spec := "fnVertexWords", inPlace := ["internal/bytealg.CountString", "internal/bytealg.IndexByteString", "internal/bytealg.IndexString"], named := ["loop.example/g00869/impl.playerNames", "internal/strconv.uint64pow10", "math/bits.deBruijn32tab", "math/bits.deBruijn64tab", "unicode/utf8.first", "unicode/utf8.acceptRanges", "internal/bytealg.MaxLen"], apart := false, laid := [("math/bits.deBruijn32tab", laid_math_bits_deBruijn32tab), ("math/bits.deBruijn64tab", laid_math_bits_deBruijn64tab), ("internal/strconv.uint64pow10", laid_internal_strconv_uint64pow10), ("unicode/utf8.acceptRanges", laid_unicode_utf8_acceptRanges), ("loop.example/g00869/impl.playerNames", laid_loop_example_g00869_impl_playerNames), ("unicode/utf8.first", laid_unicode_utf8_first)], narrowed := true }
def FnVertexWordsUptoSaid : Prop := fnVertexWordsUptoRow.holds Tryd.pinned (OpenSpec.upto fnVertexWordsSpec)

end Rows
end Go.Proofs.YtkhkdnmpbfmmeaaDoor
