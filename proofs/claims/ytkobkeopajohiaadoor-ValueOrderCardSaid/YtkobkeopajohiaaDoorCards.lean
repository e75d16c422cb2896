/-
  DERIVED. GIVEN WITH THE SEED: THE CARDS: each row of YtkobkeopajohiaaDoorRows.lean that lists a variable, with what it lists TIED to the program's text (the seventh form; the later family's looks); each row that meets fmt, with fmt's text TOLD by the authors' own Lean function (tested against real Go, not proved from fmt's source: count such statements apart). THE CARD IS WHAT COUNTS. Prove the row's statement (the work); the ties are given (YtkobkeopajohiaaDoorTie.lean); close each card by the builder's one call (the guide's Derived/Test/ToyasCard.lean, 'card_holds'). Laid BY PROGRAM, IN A SANDBOX (cutbox-door.mjs). By AI agents, Wed Nov 11 2026. No macro, syntax, notation, axiom, sorry.
-/
import Derived.Test.YtkobkeopajohiaaDoorRows
import GoSem.ClaimSeven
namespace Go.Proofs.YtkobkeopajohiaaDoor
namespace Rows

/-- THE TIED CARD OF 'tabularlaw01.DeciBack'. -/
def deciBackCard : Claim7 := { stood := { row := deciBackRow, standIns := [], harness := (true, "ac3ce0df33a669acf8f48ca5013437d2e91161089894030e93c44756e9121f38"), looks := true }, kinds := [], alts := [], laidByText := true, laidKinds := [.data, .data, .data, .data, .data, .pinned], laidTests := true, laidLooks := .later }
def DeciBackCardSaid : Prop := Claim7.holds Tryd.pinned (.plain (OpenSpec.ofChange deciBackSpec)) deciBackCard

/-- THE TIED CARD OF 'tabularlaw01.DeciNear'. -/
def deciNearCard : Claim7 := { stood := { row := deciNearRow, standIns := [], harness := (true, "ac3ce0df33a669acf8f48ca5013437d2e91161089894030e93c44756e9121f38"), looks := true }, kinds := [], alts := [], laidByText := true, laidKinds := [.data, .data, .data, .data, .data, .pinned], laidTests := true, laidLooks := .later }
def DeciNearCardSaid : Prop := Claim7.holds Tryd.pinned (.plain (OpenSpec.ofChange deciNearSpec)) deciNearCard

/-- THE TIED CARD OF 'tabularlaw01.DeciRoots'. -/
def deciRootsCard : Claim7 := { stood := { row := deciRootsRow, standIns := [], harness := (true, "ac3ce0df33a669acf8f48ca5013437d2e91161089894030e93c44756e9121f38"), looks := true }, kinds := [], alts := [], laidByText := true, laidKinds := [.data, .data, .data, .data, .data, .pinned], laidTests := true, laidLooks := .later }
def DeciRootsCardSaid : Prop := Claim7.holds Tryd.pinned (.plain (OpenSpec.ofChange deciRootsSpec)) deciRootsCard

/-- THE TIED CARD OF 'tabularlaw01.DeciParts'. -/
def deciPartsCard : Claim7 := { stood := { row := deciPartsRow, standIns := [], harness := (true, "ac3ce0df33a669acf8f48ca5013437d2e91161089894030e93c44756e9121f38"), looks := true }, kinds := [], alts := [], laidByText := true, laidKinds := [.data, .data, .data, .data, .data, .pinned], laidTests := true, laidLooks := .later }
def DeciPartsCardSaid : Prop := Claim7.holds Tryd.pinned (.plain (OpenSpec.ofChange deciPartsSpec)) deciPartsCard

/-- THE TIED CARD OF 'tabularlaw01.DeciTexts'. -/
def deciTextsCard : Claim7 := { stood := { row := deciTextsRow, standIns := [], harness := (true, "ac3ce0df33a669acf8f48ca5013437d2e91161089894030e93c44756e9121f38"), looks := true }, kinds := [], alts := [], laidByText := true, laidKinds := [.data, .data, .data, .data, .data, .pinned], laidTests := true, laidLooks := .later }
def DeciTextsCardSaid : Prop := Claim7.holds Tryd.pinned (.plain (OpenSpec.ofChange deciTextsSpec)) deciTextsCard

/-- THE TIED CARD OF 'tabularlaw01.DeciRounds'. -/
def deciRoundsCard : Claim7 := { stood := { row := deciRoundsRow, standIns := [], harness := (true, "ac3ce0df33a669acf8f48ca5013437d2e91161089894030e93c44756e9121f38"), looks := true }, kinds := [], alts := [], laidByText := true, laidKinds := [.data, .data, .data, .data, .data, .pinned], laidTests := true, laidLooks := .later }
def DeciRoundsCardSaid : Prop := Claim7.holds Tryd.pinned (.plain (OpenSpec.ofChange deciRoundsSpec)) deciRoundsCard

/-- THE TIED CARD OF 'tabularlaw16.MathsRounds'. -/
def mathsRoundsCard : Claim7 := { stood := { row := mathsRoundsRow, standIns := [], harness := (true, "ac3ce0df33a669acf8f48ca5013437d2e91161089894030e93c44756e9121f38"), looks := true }, kinds := [], alts := [], laidByText := true, laidKinds := [.data, .data, .pinned], laidTests := true, laidLooks := .later }
def MathsRoundsCardSaid : Prop := Claim7.holds Tryd.pinned (.plain (OpenSpec.ofChange mathsRoundsSpec)) mathsRoundsCard

/-- THE TIED CARD OF 'tabularlaw16.MathsDivides'. -/
def mathsDividesCard : Claim7 := { stood := { row := mathsDividesRow, standIns := [], harness := (true, "ac3ce0df33a669acf8f48ca5013437d2e91161089894030e93c44756e9121f38"), looks := true }, kinds := [], alts := [], laidByText := true, laidKinds := [.data, .data, .pinned], laidTests := true, laidLooks := .later }
def MathsDividesCardSaid : Prop := Claim7.holds Tryd.pinned (.plain (OpenSpec.ofChange mathsDividesSpec)) mathsDividesCard

/-- THE TIED CARD OF 'tabularlaw16.MathsParts'. -/
def mathsPartsCard : Claim7 := { stood := { row := mathsPartsRow, standIns := [], harness := (true, "ac3ce0df33a669acf8f48ca5013437d2e91161089894030e93c44756e9121f38"), looks := true }, kinds := [], alts := [], laidByText := true, laidKinds := [.data, .data, .pinned], laidTests := true, laidLooks := .later }
def MathsPartsCardSaid : Prop := Claim7.holds Tryd.pinned (.plain (OpenSpec.ofChange mathsPartsSpec)) mathsPartsCard

/-- THE TIED CARD OF 'tabularlaw16.MathsFails'. -/
def mathsFailsCard : Claim7 := { stood := { row := mathsFailsRow, standIns := [], harness := (true, "ac3ce0df33a669acf8f48ca5013437d2e91161089894030e93c44756e9121f38"), looks := true }, kinds := [], alts := [], laidByText := true, laidKinds := [.data, .data, .pinned], laidTests := true, laidLooks := .later }
def MathsFailsCardSaid : Prop := Claim7.holds Tryd.pinned (.plain (OpenSpec.ofChange mathsFailsSpec)) mathsFailsCard

/-- THE TIED CARD OF 'tabularlaw15.ValueOrder'. -/
def valueOrderCard : Claim7 := { stood := { row := valueOrderRow, standIns := [], harness := (true, "ac3ce0df33a669acf8f48ca5013437d2e91161089894030e93c44756e9121f38"), looks := true }, kinds := [], alts := [], laidByText := true, laidKinds := [.data, .data, .data, .data, .pinned], laidTests := true, laidLooks := .later }
def ValueOrderCardSaid : Prop := Claim7.holds Tryd.pinned (.plain (OpenSpec.ofChange valueOrderSpec)) valueOrderCard

/-- THE SECOND FORM's CARD OF 'tabularlaw01.DeciBack'. -/
def deciBackUptoCard : Claim7 := { stood := { row := deciBackUptoRow, standIns := [], harness := (true, "ac3ce0df33a669acf8f48ca5013437d2e91161089894030e93c44756e9121f38"), looks := true }, kinds := [], alts := [], laidByText := true, laidKinds := [.data, .data, .data, .data, .data, .pinned], laidTests := true, laidLooks := .later }
def DeciBackUptoCardSaid : Prop := Claim7.holds Tryd.pinned (.plain (OpenSpec.upto deciBackSpec)) deciBackUptoCard

/-- THE SECOND FORM's CARD OF 'tabularlaw01.DeciNear'. -/
def deciNearUptoCard : Claim7 := { stood := { row := deciNearUptoRow, standIns := [], harness := (true, "ac3ce0df33a669acf8f48ca5013437d2e91161089894030e93c44756e9121f38"), looks := true }, kinds := [], alts := [], laidByText := true, laidKinds := [.data, .data, .data, .data, .data, .pinned], laidTests := true, laidLooks := .later }
def DeciNearUptoCardSaid : Prop := Claim7.holds Tryd.pinned (.plain (OpenSpec.upto deciNearSpec)) deciNearUptoCard

/-- THE SECOND FORM's CARD OF 'tabularlaw01.DeciRoots'. -/
def deciRootsUptoCard : Claim7 := { stood := { row := deciRootsUptoRow, standIns := [], harness := (true, "ac3ce0df33a669acf8f48ca5013437d2e91161089894030e93c44756e9121f38"), looks := true }, kinds := [], alts := [], laidByText := true, laidKinds := [.data, .data, .data, .data, .data, .pinned], laidTests := true, laidLooks := .later }
def DeciRootsUptoCardSaid : Prop := Claim7.holds Tryd.pinned (.plain (OpenSpec.upto deciRootsSpec)) deciRootsUptoCard

/-- THE SECOND FORM's CARD OF 'tabularlaw01.DeciParts'. -/
def deciPartsUptoCard : Claim7 := { stood := { row := deciPartsUptoRow, standIns := [], harness := (true, "ac3ce0df33a669acf8f48ca5013437d2e91161089894030e93c44756e9121f38"), looks := true }, kinds := [], alts := [], laidByText := true, laidKinds := [.data, .data, .data, .data, .data, .pinned], laidTests := true, laidLooks := .later }
def DeciPartsUptoCardSaid : Prop := Claim7.holds Tryd.pinned (.plain (OpenSpec.upto deciPartsSpec)) deciPartsUptoCard

/-- THE SECOND FORM's CARD OF 'tabularlaw01.DeciTexts'. -/
def deciTextsUptoCard : Claim7 := { stood := { row := deciTextsUptoRow, standIns := [], harness := (true, "ac3ce0df33a669acf8f48ca5013437d2e91161089894030e93c44756e9121f38"), looks := true }, kinds := [], alts := [], laidByText := true, laidKinds := [.data, .data, .data, .data, .data, .pinned], laidTests := true, laidLooks := .later }
def DeciTextsUptoCardSaid : Prop := Claim7.holds Tryd.pinned (.plain (OpenSpec.upto deciTextsSpec)) deciTextsUptoCard

/-- THE SECOND FORM's CARD OF 'tabularlaw01.DeciRounds'. -/
def deciRoundsUptoCard : Claim7 := { stood := { row := deciRoundsUptoRow, standIns := [], harness := (true, "ac3ce0df33a669acf8f48ca5013437d2e91161089894030e93c44756e9121f38"), looks := true }, kinds := [], alts := [], laidByText := true, laidKinds := [.data, .data, .data, .data, .data, .pinned], laidTests := true, laidLooks := .later }
def DeciRoundsUptoCardSaid : Prop := Claim7.holds Tryd.pinned (.plain (OpenSpec.upto deciRoundsSpec)) deciRoundsUptoCard

/-- THE SECOND FORM's CARD OF 'tabularlaw16.MathsRounds'. -/
def mathsRoundsUptoCard : Claim7 := { stood := { row := mathsRoundsUptoRow, standIns := [], harness := (true, "ac3ce0df33a669acf8f48ca5013437d2e91161089894030e93c44756e9121f38"), looks := true }, kinds := [], alts := [], laidByText := true, laidKinds := [.data, .data, .pinned], laidTests := true, laidLooks := .later }
def MathsRoundsUptoCardSaid : Prop := Claim7.holds Tryd.pinned (.plain (OpenSpec.upto mathsRoundsSpec)) mathsRoundsUptoCard

/-- THE SECOND FORM's CARD OF 'tabularlaw16.MathsDivides'. -/
def mathsDividesUptoCard : Claim7 := { stood := { row := mathsDividesUptoRow, standIns := [], harness := (true, "ac3ce0df33a669acf8f48ca5013437d2e91161089894030e93c44756e9121f38"), looks := true }, kinds := [], alts := [], laidByText := true, laidKinds := [.data, .data, .pinned], laidTests := true, laidLooks := .later }
def MathsDividesUptoCardSaid : Prop := Claim7.holds Tryd.pinned (.plain (OpenSpec.upto mathsDividesSpec)) mathsDividesUptoCard

/-- THE SECOND FORM's CARD OF 'tabularlaw16.MathsParts'. -/
def mathsPartsUptoCard : Claim7 := { stood := { row := mathsPartsUptoRow, standIns := [], harness := (true, "ac3ce0df33a669acf8f48ca5013437d2e91161089894030e93c44756e9121f38"), looks := true }, kinds := [], alts := [], laidByText := true, laidKinds := [.data, .data, .pinned], laidTests := true, laidLooks := .later }
def MathsPartsUptoCardSaid : Prop := Claim7.holds Tryd.pinned (.plain (OpenSpec.upto mathsPartsSpec)) mathsPartsUptoCard

/-- THE SECOND FORM's CARD OF 'tabularlaw16.MathsFails'. -/
def mathsFailsUptoCard : Claim7 := { stood := { row := mathsFailsUptoRow, standIns := [], harness := (true, "ac3ce0df33a669acf8f48ca5013437d2e91161089894030e93c44756e9121f38"), looks := true }, kinds := [], alts := [], laidByText := true, laidKinds := [.data, .data, .pinned], laidTests := true, laidLooks := .later }
def MathsFailsUptoCardSaid : Prop := Claim7.holds Tryd.pinned (.plain (OpenSpec.upto mathsFailsSpec)) mathsFailsUptoCard

/-- THE SECOND FORM's CARD OF 'tabularlaw15.ValueOrder'. -/
def valueOrderUptoCard : Claim7 := { stood := { row := valueOrderUptoRow, standIns := [], harness := (true, "ac3ce0df33a669acf8f48ca5013437d2e91161089894030e93c44756e9121f38"), looks := true }, kinds := [], alts := [], laidByText := true, laidKinds := [.data, .data, .data, .data, .pinned], laidTests := true, laidLooks := .later }
def ValueOrderUptoCardSaid : Prop := Claim7.holds Tryd.pinned (.plain (OpenSpec.upto valueOrderSpec)) valueOrderUptoCard
end Rows
end Go.Proofs.YtkobkeopajohiaaDoor
