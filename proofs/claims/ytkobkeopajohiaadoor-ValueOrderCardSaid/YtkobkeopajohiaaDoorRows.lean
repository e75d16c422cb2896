/-
  NARROWER THAN 'FOR EVERY INPUT', by the rows' own cells (each row's printed sentence says how): DeciBack: laid · DeciNear: laid · DeciRoots: laid · DeciParts: laid · DeciTexts: laid · DeciRounds: laid · MathsRounds: laid · MathsDivides: laid · MathsParts: laid · MathsFails: laid · ValueOrder: laid.
  DERIVED. THE GIVEN ROWS OF THIS SEAT. 11 by the template 'for every input the law returns true; each argument reads behind the call as it read before'; 0 by the template 'total and deterministic' (their statements: YtkobkeopajohiaaDoorTotals.lean).
  GIVEN WITH THE SEED: the statements are not yours to turn. If you find one false, say at which input.
  Laid BY PROGRAM, IN A SANDBOX (cutbox-rows.mjs): the forced cells as the released guide's own fill.sh prints them over the translation b5899cd8d4190836… (all of the seat's roots in one cut). By AI agents, Wed Nov 11 2026. No macro, syntax, notation, axiom, sorry.
-/
import Derived.Test.YtkobkeopajohiaaDoorChecked
import GoSem.PinnedTables
import GoSem.Claim
import GoSem.ClaimJoined
import GoSem.ClaimMapViews
import Derived.JoinedTies
import Derived.KernelRfl
namespace Go.Proofs.YtkobkeopajohiaaDoor
/- THE CELL 'sum', in the pinned program and in every row, IS THE sha256 OF THE DUMP (.gsa) THAT YtkobkeopajohiaaDoorProg.lean LOADS. Nothing in Lean hashes anything: it is a label: what it is worth is what the hold of that sum in a sandbox is worth. -/
noncomputable def Tryd.pinned : Pinned := { name := "ytkobkeopajohiaadoor", sum := "b5899cd8d4190836e92ab4a783fe56d9991b42fc02c287e2abb0656164c15afb", checked := Tryd.checked }
namespace Rows
def none {H : Type} : Left H := { results := [], args := [] }

/- WHAT THE LISTED PACKAGE-LEVEL VARIABLES READ AS WHEN THE CALL BEGINS. Each datum BY PROGRAM (the guide's laid-datum.mjs) off the statement by which the dump's own 'gosem.cut.vars' lays the variable. In a bare row this is a premise. The card (YtkobkeopajohiaaDoorCards.lean) ties it to the program's text. -/
def laid_math_bits_deBruijn32tab {H : Type} : DataW H := .agg [.lit (.int .u8 0), .lit (.int .u8 1), .lit (.int .u8 28), .lit (.int .u8 2), .lit (.int .u8 29), .lit (.int .u8 14), .lit (.int .u8 24), .lit (.int .u8 3), .lit (.int .u8 30), .lit (.int .u8 22), .lit (.int .u8 20), .lit (.int .u8 15), .lit (.int .u8 25), .lit (.int .u8 17), .lit (.int .u8 4), .lit (.int .u8 8), .lit (.int .u8 31), .lit (.int .u8 27), .lit (.int .u8 13), .lit (.int .u8 23), .lit (.int .u8 21), .lit (.int .u8 19), .lit (.int .u8 16), .lit (.int .u8 7), .lit (.int .u8 26), .lit (.int .u8 12), .lit (.int .u8 18), .lit (.int .u8 6), .lit (.int .u8 11), .lit (.int .u8 5), .lit (.int .u8 10), .lit (.int .u8 9)]
def laid_math_bits_deBruijn64tab {H : Type} : DataW H := .agg [.lit (.int .u8 0), .lit (.int .u8 1), .lit (.int .u8 56), .lit (.int .u8 2), .lit (.int .u8 57), .lit (.int .u8 49), .lit (.int .u8 28), .lit (.int .u8 3), .lit (.int .u8 61), .lit (.int .u8 58), .lit (.int .u8 42), .lit (.int .u8 50), .lit (.int .u8 38), .lit (.int .u8 29), .lit (.int .u8 17), .lit (.int .u8 4), .lit (.int .u8 62), .lit (.int .u8 47), .lit (.int .u8 59), .lit (.int .u8 36), .lit (.int .u8 45), .lit (.int .u8 43), .lit (.int .u8 51), .lit (.int .u8 22), .lit (.int .u8 53), .lit (.int .u8 39), .lit (.int .u8 33), .lit (.int .u8 30), .lit (.int .u8 24), .lit (.int .u8 18), .lit (.int .u8 12), .lit (.int .u8 5), .lit (.int .u8 63), .lit (.int .u8 55), .lit (.int .u8 48), .lit (.int .u8 27), .lit (.int .u8 60), .lit (.int .u8 41), .lit (.int .u8 37), .lit (.int .u8 16), .lit (.int .u8 46), .lit (.int .u8 35), .lit (.int .u8 44), .lit (.int .u8 21), .lit (.int .u8 52), .lit (.int .u8 32), .lit (.int .u8 23), .lit (.int .u8 11), .lit (.int .u8 54), .lit (.int .u8 26), .lit (.int .u8 40), .lit (.int .u8 15), .lit (.int .u8 34), .lit (.int .u8 20), .lit (.int .u8 31), .lit (.int .u8 10), .lit (.int .u8 25), .lit (.int .u8 14), .lit (.int .u8 19), .lit (.int .u8 9), .lit (.int .u8 13), .lit (.int .u8 8), .lit (.int .u8 7), .lit (.int .u8 6)]
def laid_internal_strconv_uint64pow10 {H : Type} : DataW H := .agg [.lit (.int .u64 1), .lit (.int .u64 10), .lit (.int .u64 100), .lit (.int .u64 1000), .lit (.int .u64 10000), .lit (.int .u64 100000), .lit (.int .u64 1000000), .lit (.int .u64 10000000), .lit (.int .u64 100000000), .lit (.int .u64 1000000000), .lit (.int .u64 10000000000), .lit (.int .u64 100000000000), .lit (.int .u64 1000000000000), .lit (.int .u64 10000000000000), .lit (.int .u64 100000000000000), .lit (.int .u64 1000000000000000), .lit (.int .u64 10000000000000000), .lit (.int .u64 100000000000000000), .lit (.int .u64 1000000000000000000), .lit (.int .u64 10000000000000000000)]
def laid_unicode_utf8_acceptRanges {H : Type} : DataW H := .agg [.agg [.lit (.int .u8 128), .lit (.int .u8 191)], .agg [.lit (.int .u8 160), .lit (.int .u8 191)], .agg [.lit (.int .u8 128), .lit (.int .u8 159)], .agg [.lit (.int .u8 144), .lit (.int .u8 191)], .agg [.lit (.int .u8 128), .lit (.int .u8 143)], .agg [.lit (.int .u8 0), .lit (.int .u8 0)], .agg [.lit (.int .u8 0), .lit (.int .u8 0)], .agg [.lit (.int .u8 0), .lit (.int .u8 0)], .agg [.lit (.int .u8 0), .lit (.int .u8 0)], .agg [.lit (.int .u8 0), .lit (.int .u8 0)], .agg [.lit (.int .u8 0), .lit (.int .u8 0)], .agg [.lit (.int .u8 0), .lit (.int .u8 0)], .agg [.lit (.int .u8 0), .lit (.int .u8 0)], .agg [.lit (.int .u8 0), .lit (.int .u8 0)], .agg [.lit (.int .u8 0), .lit (.int .u8 0)], .agg [.lit (.int .u8 0), .lit (.int .u8 0)]]
def laid_tabular_deci_tens {H : Type} : DataW H := .slice [.lit (.int .u64 1), .lit (.int .u64 10), .lit (.int .u64 100), .lit (.int .u64 1000), .lit (.int .u64 10000), .lit (.int .u64 100000), .lit (.int .u64 1000000), .lit (.int .u64 10000000), .lit (.int .u64 100000000), .lit (.int .u64 1000000000), .lit (.int .u64 10000000000), .lit (.int .u64 100000000000), .lit (.int .u64 1000000000000), .lit (.int .u64 10000000000000), .lit (.int .u64 100000000000000), .lit (.int .u64 1000000000000000), .lit (.int .u64 10000000000000000), .lit (.int .u64 100000000000000000), .lit (.int .u64 1000000000000000000)] []
/-- One of Go's own tables, pinned by name: the form's constant. -/
def laid_unicode_utf8_first : DataW Unit := Go.Pinned.utf8First

/-- 'tabularlaw01.DeciBack': WHATEVER THE INPUT: true; the input reads as it did. -/
def deciBackSpec : ChangeSpec := { name := "deciBack", fn := fun _ => fun
  | [d] => { results := [.lit (.bool true)], args := [d] }
  | _ => none }
def deciBackRow : OpenClaim := { program := "ytkobkeopajohiaadoor", sum := "b5899cd8d4190836e92ab4a783fe56d9991b42fc02c287e2abb0656164c15afb", func := "tabular/tabularlaw01.DeciBack", spec := "deciBack", inPlace := ["internal/bytealg.IndexByteString", "internal/bytealg.IndexString"], named := ["math/bits.divideError", "math/bits.overflowError", "internal/bytealg.MaxLen", "tabular/deci.tens", "internal/strconv.uint64pow10", "math/bits.deBruijn32tab", "math/bits.deBruijn64tab", "unicode/utf8.first", "unicode/utf8.acceptRanges"], apart := false, laid := [("math/bits.deBruijn32tab", laid_math_bits_deBruijn32tab), ("math/bits.deBruijn64tab", laid_math_bits_deBruijn64tab), ("internal/strconv.uint64pow10", laid_internal_strconv_uint64pow10), ("unicode/utf8.acceptRanges", laid_unicode_utf8_acceptRanges), ("tabular/deci.tens", laid_tabular_deci_tens), ("unicode/utf8.first", laid_unicode_utf8_first)] }
def DeciBackSaid : Prop := deciBackRow.holds Tryd.pinned (OpenSpec.ofChange deciBackSpec)

/-- ITS FALSE NEIGHBOUR: 'it returns false'. Refute it at one input. -/
def deciBackWrong : ChangeSpec := { name := "deciBack", fn := fun _ => fun
  | [d] => { results := [.lit (.bool false)], args := [d] }
  | _ => none }
def DeciBackWrongFalsely : Prop := deciBackRow.holds Tryd.pinned (OpenSpec.ofChange deciBackWrong)

/-- 'tabularlaw01.DeciNear': WHATEVER THE INPUT: true; the input reads as it did. -/
def deciNearSpec : ChangeSpec := { name := "deciNear", fn := fun _ => fun
  | [d1, d2] => { results := [.lit (.bool true)], args := [d1, d2] }
  | _ => none }
def deciNearRow : OpenClaim := { program := "ytkobkeopajohiaadoor", sum := "b5899cd8d4190836e92ab4a783fe56d9991b42fc02c287e2abb0656164c15afb", func := "tabular/tabularlaw01.DeciNear", spec := "deciNear", inPlace := ["internal/bytealg.IndexByteString", "internal/bytealg.IndexString"], named := ["math/bits.divideError", "math/bits.overflowError", "internal/bytealg.MaxLen", "tabular/deci.tens", "internal/strconv.uint64pow10", "math/bits.deBruijn32tab", "math/bits.deBruijn64tab", "unicode/utf8.first", "unicode/utf8.acceptRanges"], apart := false, laid := [("math/bits.deBruijn32tab", laid_math_bits_deBruijn32tab), ("math/bits.deBruijn64tab", laid_math_bits_deBruijn64tab), ("internal/strconv.uint64pow10", laid_internal_strconv_uint64pow10), ("unicode/utf8.acceptRanges", laid_unicode_utf8_acceptRanges), ("tabular/deci.tens", laid_tabular_deci_tens), ("unicode/utf8.first", laid_unicode_utf8_first)] }
def DeciNearSaid : Prop := deciNearRow.holds Tryd.pinned (OpenSpec.ofChange deciNearSpec)

/-- ITS FALSE NEIGHBOUR: 'it returns false'. Refute it at one input. -/
def deciNearWrong : ChangeSpec := { name := "deciNear", fn := fun _ => fun
  | [d1, d2] => { results := [.lit (.bool false)], args := [d1, d2] }
  | _ => none }
def DeciNearWrongFalsely : Prop := deciNearRow.holds Tryd.pinned (OpenSpec.ofChange deciNearWrong)

/-- 'tabularlaw01.DeciRoots': WHATEVER THE INPUT: true; the input reads as it did. -/
def deciRootsSpec : ChangeSpec := { name := "deciRoots", fn := fun _ => fun
  | [d] => { results := [.lit (.bool true)], args := [d] }
  | _ => none }
def deciRootsRow : OpenClaim := { program := "ytkobkeopajohiaadoor", sum := "b5899cd8d4190836e92ab4a783fe56d9991b42fc02c287e2abb0656164c15afb", func := "tabular/tabularlaw01.DeciRoots", spec := "deciRoots", inPlace := ["internal/bytealg.IndexByteString", "internal/bytealg.IndexString"], named := ["math/bits.divideError", "math/bits.overflowError", "internal/bytealg.MaxLen", "tabular/deci.tens", "internal/strconv.uint64pow10", "math/bits.deBruijn32tab", "math/bits.deBruijn64tab", "unicode/utf8.first", "unicode/utf8.acceptRanges"], apart := false, laid := [("math/bits.deBruijn32tab", laid_math_bits_deBruijn32tab), ("math/bits.deBruijn64tab", laid_math_bits_deBruijn64tab), ("internal/strconv.uint64pow10", laid_internal_strconv_uint64pow10), ("unicode/utf8.acceptRanges", laid_unicode_utf8_acceptRanges), ("tabular/deci.tens", laid_tabular_deci_tens), ("unicode/utf8.first", laid_unicode_utf8_first)] }
def DeciRootsSaid : Prop := deciRootsRow.holds Tryd.pinned (OpenSpec.ofChange deciRootsSpec)

/-- ITS FALSE NEIGHBOUR: 'it returns false'. Refute it at one input. -/
def deciRootsWrong : ChangeSpec := { name := "deciRoots", fn := fun _ => fun
  | [d] => { results := [.lit (.bool false)], args := [d] }
  | _ => none }
def DeciRootsWrongFalsely : Prop := deciRootsRow.holds Tryd.pinned (OpenSpec.ofChange deciRootsWrong)

/-- 'tabularlaw01.DeciParts': WHATEVER THE INPUT: true; the input reads as it did. -/
def deciPartsSpec : ChangeSpec := { name := "deciParts", fn := fun _ => fun
  | [d1, d2] => { results := [.lit (.bool true)], args := [d1, d2] }
  | _ => none }
def deciPartsRow : OpenClaim := { program := "ytkobkeopajohiaadoor", sum := "b5899cd8d4190836e92ab4a783fe56d9991b42fc02c287e2abb0656164c15afb", func := "tabular/tabularlaw01.DeciParts", spec := "deciParts", inPlace := ["internal/bytealg.IndexByteString", "internal/bytealg.IndexString"], named := ["math/bits.divideError", "math/bits.overflowError", "internal/bytealg.MaxLen", "tabular/deci.tens", "internal/strconv.uint64pow10", "math/bits.deBruijn32tab", "math/bits.deBruijn64tab", "unicode/utf8.first", "unicode/utf8.acceptRanges"], apart := false, laid := [("math/bits.deBruijn32tab", laid_math_bits_deBruijn32tab), ("math/bits.deBruijn64tab", laid_math_bits_deBruijn64tab), ("internal/strconv.uint64pow10", laid_internal_strconv_uint64pow10), ("unicode/utf8.acceptRanges", laid_unicode_utf8_acceptRanges), ("tabular/deci.tens", laid_tabular_deci_tens), ("unicode/utf8.first", laid_unicode_utf8_first)] }
def DeciPartsSaid : Prop := deciPartsRow.holds Tryd.pinned (OpenSpec.ofChange deciPartsSpec)

/-- ITS FALSE NEIGHBOUR: 'it returns false'. Refute it at one input. -/
def deciPartsWrong : ChangeSpec := { name := "deciParts", fn := fun _ => fun
  | [d1, d2] => { results := [.lit (.bool false)], args := [d1, d2] }
  | _ => none }
def DeciPartsWrongFalsely : Prop := deciPartsRow.holds Tryd.pinned (OpenSpec.ofChange deciPartsWrong)

/-- 'tabularlaw01.DeciTexts': WHATEVER THE INPUT: true; the input reads as it did. -/
def deciTextsSpec : ChangeSpec := { name := "deciTexts", fn := fun _ => fun
  | [d1, d2, d3, d4] => { results := [.lit (.bool true)], args := [d1, d2, d3, d4] }
  | _ => none }
def deciTextsRow : OpenClaim := { program := "ytkobkeopajohiaadoor", sum := "b5899cd8d4190836e92ab4a783fe56d9991b42fc02c287e2abb0656164c15afb", func := "tabular/tabularlaw01.DeciTexts", spec := "deciTexts", inPlace := ["internal/bytealg.IndexByteString", "internal/bytealg.IndexString"], named := ["internal/bytealg.MaxLen", "math/bits.divideError", "math/bits.overflowError", "tabular/deci.tens", "internal/strconv.uint64pow10", "math/bits.deBruijn32tab", "math/bits.deBruijn64tab", "unicode/utf8.first", "unicode/utf8.acceptRanges"], apart := false, laid := [("math/bits.deBruijn32tab", laid_math_bits_deBruijn32tab), ("math/bits.deBruijn64tab", laid_math_bits_deBruijn64tab), ("internal/strconv.uint64pow10", laid_internal_strconv_uint64pow10), ("unicode/utf8.acceptRanges", laid_unicode_utf8_acceptRanges), ("tabular/deci.tens", laid_tabular_deci_tens), ("unicode/utf8.first", laid_unicode_utf8_first)] }
def DeciTextsSaid : Prop := deciTextsRow.holds Tryd.pinned (OpenSpec.ofChange deciTextsSpec)

/-- ITS FALSE NEIGHBOUR: 'it returns false'. Refute it at one input. -/
def deciTextsWrong : ChangeSpec := { name := "deciTexts", fn := fun _ => fun
  | [d1, d2, d3, d4] => { results := [.lit (.bool false)], args := [d1, d2, d3, d4] }
  | _ => none }
def DeciTextsWrongFalsely : Prop := deciTextsRow.holds Tryd.pinned (OpenSpec.ofChange deciTextsWrong)

/-- 'tabularlaw01.DeciRounds': WHATEVER THE INPUT: true; the input reads as it did. -/
def deciRoundsSpec : ChangeSpec := { name := "deciRounds", fn := fun _ => fun
  | [d1, d2, d3] => { results := [.lit (.bool true)], args := [d1, d2, d3] }
  | _ => none }
def deciRoundsRow : OpenClaim := { program := "ytkobkeopajohiaadoor", sum := "b5899cd8d4190836e92ab4a783fe56d9991b42fc02c287e2abb0656164c15afb", func := "tabular/tabularlaw01.DeciRounds", spec := "deciRounds", inPlace := ["internal/bytealg.IndexByteString", "internal/bytealg.IndexString"], named := ["math/bits.divideError", "math/bits.overflowError", "internal/bytealg.MaxLen", "tabular/deci.tens", "internal/strconv.uint64pow10", "math/bits.deBruijn32tab", "math/bits.deBruijn64tab", "unicode/utf8.first", "unicode/utf8.acceptRanges"], apart := false, laid := [("math/bits.deBruijn32tab", laid_math_bits_deBruijn32tab), ("math/bits.deBruijn64tab", laid_math_bits_deBruijn64tab), ("internal/strconv.uint64pow10", laid_internal_strconv_uint64pow10), ("unicode/utf8.acceptRanges", laid_unicode_utf8_acceptRanges), ("tabular/deci.tens", laid_tabular_deci_tens), ("unicode/utf8.first", laid_unicode_utf8_first)] }
def DeciRoundsSaid : Prop := deciRoundsRow.holds Tryd.pinned (OpenSpec.ofChange deciRoundsSpec)

/-- ITS FALSE NEIGHBOUR: 'it returns false'. Refute it at one input. -/
def deciRoundsWrong : ChangeSpec := { name := "deciRounds", fn := fun _ => fun
  | [d1, d2, d3] => { results := [.lit (.bool false)], args := [d1, d2, d3] }
  | _ => none }
def DeciRoundsWrongFalsely : Prop := deciRoundsRow.holds Tryd.pinned (OpenSpec.ofChange deciRoundsWrong)

/-- 'tabularlaw16.MathsRounds': WHATEVER THE INPUT: true; the input reads as it did. -/
def mathsRoundsSpec : ChangeSpec := { name := "mathsRounds", fn := fun _ => fun
  | [d1, d2] => { results := [.lit (.bool true)], args := [d1, d2] }
  | _ => none }
def mathsRoundsRow : OpenClaim := { program := "ytkobkeopajohiaadoor", sum := "b5899cd8d4190836e92ab4a783fe56d9991b42fc02c287e2abb0656164c15afb", func := "tabular/tabularlaw16.MathsRounds", spec := "mathsRounds", inPlace := ["internal/bytealg.IndexByteString", "internal/bytealg.IndexString"], named := ["unicode/utf8.first", "unicode/utf8.acceptRanges", "internal/bytealg.MaxLen", "tabular/deci.tens", "math/bits.divideError", "math/bits.overflowError"], apart := false, laid := [("unicode/utf8.acceptRanges", laid_unicode_utf8_acceptRanges), ("tabular/deci.tens", laid_tabular_deci_tens), ("unicode/utf8.first", laid_unicode_utf8_first)] }
def MathsRoundsSaid : Prop := mathsRoundsRow.holds Tryd.pinned (OpenSpec.ofChange mathsRoundsSpec)

/-- ITS FALSE NEIGHBOUR: 'it returns false'. Refute it at one input. -/
def mathsRoundsWrong : ChangeSpec := { name := "mathsRounds", fn := fun _ => fun
  | [d1, d2] => { results := [.lit (.bool false)], args := [d1, d2] }
  | _ => none }
def MathsRoundsWrongFalsely : Prop := mathsRoundsRow.holds Tryd.pinned (OpenSpec.ofChange mathsRoundsWrong)

/-- 'tabularlaw16.MathsDivides': WHATEVER THE INPUT: true; the input reads as it did. -/
def mathsDividesSpec : ChangeSpec := { name := "mathsDivides", fn := fun _ => fun
  | [d1, d2] => { results := [.lit (.bool true)], args := [d1, d2] }
  | _ => none }
def mathsDividesRow : OpenClaim := { program := "ytkobkeopajohiaadoor", sum := "b5899cd8d4190836e92ab4a783fe56d9991b42fc02c287e2abb0656164c15afb", func := "tabular/tabularlaw16.MathsDivides", spec := "mathsDivides", inPlace := ["internal/bytealg.IndexByteString", "internal/bytealg.IndexString"], named := ["unicode/utf8.first", "unicode/utf8.acceptRanges", "internal/bytealg.MaxLen", "tabular/deci.tens", "math/bits.divideError", "math/bits.overflowError"], apart := false, laid := [("unicode/utf8.acceptRanges", laid_unicode_utf8_acceptRanges), ("tabular/deci.tens", laid_tabular_deci_tens), ("unicode/utf8.first", laid_unicode_utf8_first)] }
def MathsDividesSaid : Prop := mathsDividesRow.holds Tryd.pinned (OpenSpec.ofChange mathsDividesSpec)

/-- ITS FALSE NEIGHBOUR: 'it returns false'. Refute it at one input. -/
def mathsDividesWrong : ChangeSpec := { name := "mathsDivides", fn := fun _ => fun
  | [d1, d2] => { results := [.lit (.bool false)], args := [d1, d2] }
  | _ => none }
def MathsDividesWrongFalsely : Prop := mathsDividesRow.holds Tryd.pinned (OpenSpec.ofChange mathsDividesWrong)

/-- 'tabularlaw16.MathsParts': WHATEVER THE INPUT: true; the input reads as it did. -/
def mathsPartsSpec : ChangeSpec := { name := "mathsParts", fn := fun _ => fun
  | [d1, d2] => { results := [.lit (.bool true)], args := [d1, d2] }
  | _ => none }
def mathsPartsRow : OpenClaim := { program := "ytkobkeopajohiaadoor", sum := "b5899cd8d4190836e92ab4a783fe56d9991b42fc02c287e2abb0656164c15afb", func := "tabular/tabularlaw16.MathsParts", spec := "mathsParts", inPlace := ["internal/bytealg.IndexByteString", "internal/bytealg.IndexString"], named := ["unicode/utf8.first", "unicode/utf8.acceptRanges", "internal/bytealg.MaxLen", "tabular/deci.tens", "math/bits.divideError", "math/bits.overflowError"], apart := false, laid := [("unicode/utf8.acceptRanges", laid_unicode_utf8_acceptRanges), ("tabular/deci.tens", laid_tabular_deci_tens), ("unicode/utf8.first", laid_unicode_utf8_first)] }
def MathsPartsSaid : Prop := mathsPartsRow.holds Tryd.pinned (OpenSpec.ofChange mathsPartsSpec)

/-- ITS FALSE NEIGHBOUR: 'it returns false'. Refute it at one input. -/
def mathsPartsWrong : ChangeSpec := { name := "mathsParts", fn := fun _ => fun
  | [d1, d2] => { results := [.lit (.bool false)], args := [d1, d2] }
  | _ => none }
def MathsPartsWrongFalsely : Prop := mathsPartsRow.holds Tryd.pinned (OpenSpec.ofChange mathsPartsWrong)

/-- 'tabularlaw16.MathsFails': WHATEVER THE INPUT: true; the input reads as it did. -/
def mathsFailsSpec : ChangeSpec := { name := "mathsFails", fn := fun _ => fun
  | [d1, d2, d3, d4] => { results := [.lit (.bool true)], args := [d1, d2, d3, d4] }
  | _ => none }
def mathsFailsRow : OpenClaim := { program := "ytkobkeopajohiaadoor", sum := "b5899cd8d4190836e92ab4a783fe56d9991b42fc02c287e2abb0656164c15afb", func := "tabular/tabularlaw16.MathsFails", spec := "mathsFails", inPlace := ["internal/bytealg.IndexByteString", "internal/bytealg.IndexString"], named := ["unicode/utf8.first", "unicode/utf8.acceptRanges", "internal/bytealg.MaxLen", "tabular/deci.tens", "math/bits.divideError", "math/bits.overflowError"], apart := false, laid := [("unicode/utf8.acceptRanges", laid_unicode_utf8_acceptRanges), ("tabular/deci.tens", laid_tabular_deci_tens), ("unicode/utf8.first", laid_unicode_utf8_first)] }
def MathsFailsSaid : Prop := mathsFailsRow.holds Tryd.pinned (OpenSpec.ofChange mathsFailsSpec)

/-- ITS FALSE NEIGHBOUR: 'it returns false'. Refute it at one input. -/
def mathsFailsWrong : ChangeSpec := { name := "mathsFails", fn := fun _ => fun
  | [d1, d2, d3, d4] => { results := [.lit (.bool false)], args := [d1, d2, d3, d4] }
  | _ => none }
def MathsFailsWrongFalsely : Prop := mathsFailsRow.holds Tryd.pinned (OpenSpec.ofChange mathsFailsWrong)

/-- 'tabularlaw15.ValueOrder': WHATEVER THE INPUT: true; the input reads as it did. -/
def valueOrderSpec : ChangeSpec := { name := "valueOrder", fn := fun _ => fun
  | [d1, d2, d3] => { results := [.lit (.bool true)], args := [d1, d2, d3] }
  | _ => none }
def valueOrderRow : OpenClaim := { program := "ytkobkeopajohiaadoor", sum := "b5899cd8d4190836e92ab4a783fe56d9991b42fc02c287e2abb0656164c15afb", func := "tabular/tabularlaw15.ValueOrder", spec := "valueOrder", inPlace := ["internal/bytealg.IndexByteString", "internal/bytealg.IndexString", "internal/bytealg.abigen_runtime_cmpstring"], named := ["unicode/utf8.first", "unicode/utf8.acceptRanges", "internal/bytealg.MaxLen", "math/bits.divideError", "math/bits.overflowError", "internal/strconv.uint64pow10", "math/bits.deBruijn32tab", "math/bits.deBruijn64tab"], apart := false, laid := [("math/bits.deBruijn32tab", laid_math_bits_deBruijn32tab), ("math/bits.deBruijn64tab", laid_math_bits_deBruijn64tab), ("internal/strconv.uint64pow10", laid_internal_strconv_uint64pow10), ("unicode/utf8.acceptRanges", laid_unicode_utf8_acceptRanges), ("unicode/utf8.first", laid_unicode_utf8_first)] }
def ValueOrderSaid : Prop := valueOrderRow.holds Tryd.pinned (OpenSpec.ofChange valueOrderSpec)

/-- ITS FALSE NEIGHBOUR: 'it returns false'. Refute it at one input. -/
def valueOrderWrong : ChangeSpec := { name := "valueOrder", fn := fun _ => fun
  | [d1, d2, d3] => { results := [.lit (.bool false)], args := [d1, d2, d3] }
  | _ => none }
def ValueOrderWrongFalsely : Prop := valueOrderRow.holds Tryd.pinned (OpenSpec.ofChange valueOrderWrong)

/- THE SECOND FORM. 'bulk': how many values and letters a reading holds, each counted each time it is reached (what is shared counts as often as it is met; a slice's spare places count too). A statement '..UptoSaid' is the law's where the arguments, and the package variables that the reading takes, are together of bulk at most 1048576: NARROWER than '..Said'. Prove '..Said' where nothing that the law and all that it calls make is longer than what came in: it says more and counts as full. Else prove '..UptoSaid'. A law counts once. -/
mutual
def uptoBulk {H : Type} : DataW H → Nat
  | .lit (.string bytes) => bytes.length + 1
  | .lit _ => 1
  | .nil => 1
  | .ptr d => uptoBulk d + 1
  | .slice elems spare => uptoBulkAll elems + uptoBulkAll spare + 1
  | .agg parts => uptoBulkAll parts + 1
  | .iface _ d => uptoBulk d + 1
  | .map entries => uptoBulkEntries entries + 1
  | .held _ => 1
def uptoBulkAll {H : Type} : List (DataW H) → Nat
  | [] => 0
  | d :: r => uptoBulk d + uptoBulkAll r
def uptoBulkEntries {H : Type} : List (Lit × DataW H) → Nat
  | [] => 0
  | x :: r => uptoBulkEntry x + uptoBulkEntries r
def uptoBulkEntry {H : Type} : Lit × DataW H → Nat
  | (.string bytes, d) => bytes.length + uptoBulk d + 1
  | (_, d) => uptoBulk d + 1
 end
def uptoSmall : (H : Type) → List (DataW H) → Bool := fun _ ds => decide (uptoBulkAll ds ≤ 1048576)
def OpenSpec.upto (s : _root_.Go.ChangeSpec) : _root_.Go.OpenSpec := { _root_.Go.OpenSpec.ofChange s with cond := some uptoSmall }

/-- 'tabularlaw01.DeciBack', WHERE WHAT IT READS IS OF BULK AT MOST 1048576: true; the input reads as it did. -/
def deciBackUptoRow : OpenClaim := { program := "ytkobkeopajohiaadoor", sum := "b5899cd8d4190836e92ab4a783fe56d9991b42fc02c287e2abb0656164c15afb", func := "tabular/tabularlaw01.DeciBack", spec := "deciBack", inPlace := ["internal/bytealg.IndexByteString", "internal/bytealg.IndexString"], named := ["math/bits.divideError", "math/bits.overflowError", "internal/bytealg.MaxLen", "tabular/deci.tens", "internal/strconv.uint64pow10", "math/bits.deBruijn32tab", "math/bits.deBruijn64tab", "unicode/utf8.first", "unicode/utf8.acceptRanges"], apart := false, laid := [("math/bits.deBruijn32tab", laid_math_bits_deBruijn32tab), ("math/bits.deBruijn64tab", laid_math_bits_deBruijn64tab), ("internal/strconv.uint64pow10", laid_internal_strconv_uint64pow10), ("unicode/utf8.acceptRanges", laid_unicode_utf8_acceptRanges), ("tabular/deci.tens", laid_tabular_deci_tens), ("unicode/utf8.first", laid_unicode_utf8_first)], narrowed := true }
def DeciBackUptoSaid : Prop := deciBackUptoRow.holds Tryd.pinned (OpenSpec.upto deciBackSpec)

/-- 'tabularlaw01.DeciNear', WHERE WHAT IT READS IS OF BULK AT MOST 1048576: true; the input reads as it did. -/
def deciNearUptoRow : OpenClaim := { program := "ytkobkeopajohiaadoor", sum := "b5899cd8d4190836e92ab4a783fe56d9991b42fc02c287e2abb0656164c15afb", func := "tabular/tabularlaw01.DeciNear", spec := "deciNear", inPlace := ["internal/bytealg.IndexByteString", "internal/bytealg.IndexString"], named := ["math/bits.divideError", "math/bits.overflowError", "internal/bytealg.MaxLen", "tabular/deci.tens", "internal/strconv.uint64pow10", "math/bits.deBruijn32tab", "math/bits.deBruijn64tab", "unicode/utf8.first", "unicode/utf8.acceptRanges"], apart := false, laid := [("math/bits.deBruijn32tab", laid_math_bits_deBruijn32tab), ("math/bits.deBruijn64tab", laid_math_bits_deBruijn64tab), ("internal/strconv.uint64pow10", laid_internal_strconv_uint64pow10), ("unicode/utf8.acceptRanges", laid_unicode_utf8_acceptRanges), ("tabular/deci.tens", laid_tabular_deci_tens), ("unicode/utf8.first", laid_unicode_utf8_first)], narrowed := true }
def DeciNearUptoSaid : Prop := deciNearUptoRow.holds Tryd.pinned (OpenSpec.upto deciNearSpec)

/-- 'tabularlaw01.DeciRoots', WHERE WHAT IT READS IS OF BULK AT MOST 1048576: true; the input reads as it did. -/
def deciRootsUptoRow : OpenClaim := { program := "ytkobkeopajohiaadoor", sum := "b5899cd8d4190836e92ab4a783fe56d9991b42fc02c287e2abb0656164c15afb", func := "tabular/tabularlaw01.DeciRoots", spec := "deciRoots", inPlace := ["internal/bytealg.IndexByteString", "internal/bytealg.IndexString"], named := ["math/bits.divideError", "math/bits.overflowError", "internal/bytealg.MaxLen", "tabular/deci.tens", "internal/strconv.uint64pow10", "math/bits.deBruijn32tab", "math/bits.deBruijn64tab", "unicode/utf8.first", "unicode/utf8.acceptRanges"], apart := false, laid := [("math/bits.deBruijn32tab", laid_math_bits_deBruijn32tab), ("math/bits.deBruijn64tab", laid_math_bits_deBruijn64tab), ("internal/strconv.uint64pow10", laid_internal_strconv_uint64pow10), ("unicode/utf8.acceptRanges", laid_unicode_utf8_acceptRanges), ("tabular/deci.tens", laid_tabular_deci_tens), ("unicode/utf8.first", laid_unicode_utf8_first)], narrowed := true }
def DeciRootsUptoSaid : Prop := deciRootsUptoRow.holds Tryd.pinned (OpenSpec.upto deciRootsSpec)

/-- 'tabularlaw01.DeciParts', WHERE WHAT IT READS IS OF BULK AT MOST 1048576: true; the input reads as it did. -/
def deciPartsUptoRow : OpenClaim := { program := "ytkobkeopajohiaadoor", sum := "b5899cd8d4190836e92ab4a783fe56d9991b42fc02c287e2abb0656164c15afb", func := "tabular/tabularlaw01.DeciParts", spec := "deciParts", inPlace := ["internal/bytealg.IndexByteString", "internal/bytealg.IndexString"], named := ["math/bits.divideError", "math/bits.overflowError", "internal/bytealg.MaxLen", "tabular/deci.tens", "internal/strconv.uint64pow10", "math/bits.deBruijn32tab", "math/bits.deBruijn64tab", "unicode/utf8.first", "unicode/utf8.acceptRanges"], apart := false, laid := [("math/bits.deBruijn32tab", laid_math_bits_deBruijn32tab), ("math/bits.deBruijn64tab", laid_math_bits_deBruijn64tab), ("internal/strconv.uint64pow10", laid_internal_strconv_uint64pow10), ("unicode/utf8.acceptRanges", laid_unicode_utf8_acceptRanges), ("tabular/deci.tens", laid_tabular_deci_tens), ("unicode/utf8.first", laid_unicode_utf8_first)], narrowed := true }
def DeciPartsUptoSaid : Prop := deciPartsUptoRow.holds Tryd.pinned (OpenSpec.upto deciPartsSpec)

/-- 'tabularlaw01.DeciTexts', WHERE WHAT IT READS IS OF BULK AT MOST 1048576: true; the input reads as it did. -/
def deciTextsUptoRow : OpenClaim := { program := "ytkobkeopajohiaadoor", sum := "b5899cd8d4190836e92ab4a783fe56d9991b42fc02c287e2abb0656164c15afb", func := "tabular/tabularlaw01.DeciTexts", spec := "deciTexts", inPlace := ["internal/bytealg.IndexByteString", "internal/bytealg.IndexString"], named := ["internal/bytealg.MaxLen", "math/bits.divideError", "math/bits.overflowError", "tabular/deci.tens", "internal/strconv.uint64pow10", "math/bits.deBruijn32tab", "math/bits.deBruijn64tab", "unicode/utf8.first", "unicode/utf8.acceptRanges"], apart := false, laid := [("math/bits.deBruijn32tab", laid_math_bits_deBruijn32tab), ("math/bits.deBruijn64tab", laid_math_bits_deBruijn64tab), ("internal/strconv.uint64pow10", laid_internal_strconv_uint64pow10), ("unicode/utf8.acceptRanges", laid_unicode_utf8_acceptRanges), ("tabular/deci.tens", laid_tabular_deci_tens), ("unicode/utf8.first", laid_unicode_utf8_first)], narrowed := true }
def DeciTextsUptoSaid : Prop := deciTextsUptoRow.holds Tryd.pinned (OpenSpec.upto deciTextsSpec)

/-- 'tabularlaw01.DeciRounds', WHERE WHAT IT READS IS OF BULK AT MOST 1048576: true; the input reads as it did. -/
def deciRoundsUptoRow : OpenClaim := { program := "ytkobkeopajohiaadoor", sum := "b5899cd8d4190836e92ab4a783fe56d9991b42fc02c287e2abb0656164c15afb", func := "tabular/tabularlaw01.DeciRounds", spec := "deciRounds", inPlace := ["internal/bytealg.IndexByteString", "internal/bytealg.IndexString"], named := ["math/bits.divideError", "math/bits.overflowError", "internal/bytealg.MaxLen", "tabular/deci.tens", "internal/strconv.uint64pow10", "math/bits.deBruijn32tab", "math/bits.deBruijn64tab", "unicode/utf8.first", "unicode/utf8.acceptRanges"], apart := false, laid := [("math/bits.deBruijn32tab", laid_math_bits_deBruijn32tab), ("math/bits.deBruijn64tab", laid_math_bits_deBruijn64tab), ("internal/strconv.uint64pow10", laid_internal_strconv_uint64pow10), ("unicode/utf8.acceptRanges", laid_unicode_utf8_acceptRanges), ("tabular/deci.tens", laid_tabular_deci_tens), ("unicode/utf8.first", laid_unicode_utf8_first)], narrowed := true }
def DeciRoundsUptoSaid : Prop := deciRoundsUptoRow.holds Tryd.pinned (OpenSpec.upto deciRoundsSpec)

/-- 'tabularlaw16.MathsRounds', WHERE WHAT IT READS IS OF BULK AT MOST 1048576: true; the input reads as it did. -/
def mathsRoundsUptoRow : OpenClaim := { program := "ytkobkeopajohiaadoor", sum := "b5899cd8d4190836e92ab4a783fe56d9991b42fc02c287e2abb0656164c15afb", func := "tabular/tabularlaw16.MathsRounds", spec := "mathsRounds", inPlace := ["internal/bytealg.IndexByteString", "internal/bytealg.IndexString"], named := ["unicode/utf8.first", "unicode/utf8.acceptRanges", "internal/bytealg.MaxLen", "tabular/deci.tens", "math/bits.divideError", "math/bits.overflowError"], apart := false, laid := [("unicode/utf8.acceptRanges", laid_unicode_utf8_acceptRanges), ("tabular/deci.tens", laid_tabular_deci_tens), ("unicode/utf8.first", laid_unicode_utf8_first)], narrowed := true }
def MathsRoundsUptoSaid : Prop := mathsRoundsUptoRow.holds Tryd.pinned (OpenSpec.upto mathsRoundsSpec)

/-- 'tabularlaw16.MathsDivides', WHERE WHAT IT READS IS OF BULK AT MOST 1048576: true; the input reads as it did. -/
def mathsDividesUptoRow : OpenClaim := { program := "ytkobkeopajohiaadoor", sum := "b5899cd8d4190836e92ab4a783fe56d9991b42fc02c287e2abb0656164c15afb", func := "tabular/tabularlaw16.MathsDivides", spec := "mathsDivides", inPlace := ["internal/bytealg.IndexByteString", "internal/bytealg.IndexString"], named := ["unicode/utf8.first", "unicode/utf8.acceptRanges", "internal/bytealg.MaxLen", "tabular/deci.tens", "math/bits.divideError", "math/bits.overflowError"], apart := false, laid := [("unicode/utf8.acceptRanges", laid_unicode_utf8_acceptRanges), ("tabular/deci.tens", laid_tabular_deci_tens), ("unicode/utf8.first", laid_unicode_utf8_first)], narrowed := true }
def MathsDividesUptoSaid : Prop := mathsDividesUptoRow.holds Tryd.pinned (OpenSpec.upto mathsDividesSpec)

/-- 'tabularlaw16.MathsParts', WHERE WHAT IT READS IS OF BULK AT MOST 1048576: true; the input reads as it did. -/
def mathsPartsUptoRow : OpenClaim := { program := "ytkobkeopajohiaadoor", sum := "b5899cd8d4190836e92ab4a783fe56d9991b42fc02c287e2abb0656164c15afb", func := "tabular/tabularlaw16.MathsParts", spec := "mathsParts", inPlace := ["internal/bytealg.IndexByteString", "internal/bytealg.IndexString"], named := ["unicode/utf8.first", "unicode/utf8.acceptRanges", "internal/bytealg.MaxLen", "tabular/deci.tens", "math/bits.divideError", "math/bits.overflowError"], apart := false, laid := [("unicode/utf8.acceptRanges", laid_unicode_utf8_acceptRanges), ("tabular/deci.tens", laid_tabular_deci_tens), ("unicode/utf8.first", laid_unicode_utf8_first)], narrowed := true }
def MathsPartsUptoSaid : Prop := mathsPartsUptoRow.holds Tryd.pinned (OpenSpec.upto mathsPartsSpec)

/-- 'tabularlaw16.MathsFails', WHERE WHAT IT READS IS OF BULK AT MOST 1048576: true; the input reads as it did. -/
def mathsFailsUptoRow : OpenClaim := { program := "ytkobkeopajohiaadoor", sum := "b5899cd8d4190836e92ab4a783fe56d9991b42fc02c287e2abb0656164c15afb", func := "tabular/tabularlaw16.MathsFails", spec := "mathsFails", inPlace := ["internal/bytealg.IndexByteString", "internal/bytealg.IndexString"], named := ["unicode/utf8.first", "unicode/utf8.acceptRanges", "internal/bytealg.MaxLen", "tabular/deci.tens", "math/bits.divideError", "math/bits.overflowError"], apart := false, laid := [("unicode/utf8.acceptRanges", laid_unicode_utf8_acceptRanges), ("tabular/deci.tens", laid_tabular_deci_tens), ("unicode/utf8.first", laid_unicode_utf8_first)], narrowed := true }
def MathsFailsUptoSaid : Prop := mathsFailsUptoRow.holds Tryd.pinned (OpenSpec.upto mathsFailsSpec)

/-- 'tabularlaw15.ValueOrder', WHERE WHAT IT READS IS OF BULK AT MOST 1048576: true; the input reads as it did. -/
def valueOrderUptoRow : OpenClaim := { program := "ytkobkeopajohiaadoor", sum := "b5899cd8d4190836e92ab4a783fe56d9991b42fc02c287e2abb0656164c15afb", func := "tabular/tabularlaw15.ValueOrder", spec := "valueOrder", inPlace := ["internal/bytealg.IndexByteString", "internal/bytealg.IndexString", "internal/bytealg.abigen_runtime_cmpstring"], named := ["unicode/utf8.first", "unicode/utf8.acceptRanges", "internal/bytealg.MaxLen", "math/bits.divideError", "math/bits.overflowError", "internal/strconv.uint64pow10", "math/bits.deBruijn32tab", "math/bits.deBruijn64tab"], apart := false, laid := [("math/bits.deBruijn32tab", laid_math_bits_deBruijn32tab), ("math/bits.deBruijn64tab", laid_math_bits_deBruijn64tab), ("internal/strconv.uint64pow10", laid_internal_strconv_uint64pow10), ("unicode/utf8.acceptRanges", laid_unicode_utf8_acceptRanges), ("unicode/utf8.first", laid_unicode_utf8_first)], narrowed := true }
def ValueOrderUptoSaid : Prop := valueOrderUptoRow.holds Tryd.pinned (OpenSpec.upto valueOrderSpec)

end Rows
end Go.Proofs.YtkobkeopajohiaaDoor
