/-
  DERIVED. GIVEN WITH THE SEED: THE CARDS: each row of YtamagbdkcfmfmaaDoorRows.lean that lists a variable, with what it lists TIED to the program's text (the seventh form; the later family's looks); each row that meets fmt, with fmt's text TOLD by the authors' own Lean function (tested against real Go, not proved from fmt's source: count such statements apart). THE CARD IS WHAT COUNTS. Prove the row's statement (the work); the ties are given (YtamagbdkcfmfmaaDoorTie.lean); close each card by the builder's one call (the guide's Derived/Test/ToyasCard.lean, 'card_holds'). Laid BY PROGRAM, IN A SANDBOX (cutbox-door.mjs). By AI agents, Wed Nov 11 2026. No macro, syntax, notation, axiom, sorry.
-/
import Derived.Test.YtamagbdkcfmfmaaDoorRows
import GoSem.ClaimSeven
namespace Go.Proofs.YtamagbdkcfmfmaaDoor
namespace Rows

/-- THE TIED CARD OF 'turnpikelaw06.FieldLines'. -/
def fieldLinesCard : Claim7 := { stood := { row := fieldLinesRow, standIns := [], harness := (true, "97432279504ff91c1d1258504ab31dfca8d634333e842c9ad43013ac5322ba0a"), looks := false }, kinds := [], alts := [], laidByText := true, laidKinds := [.data, .data, .pinned], laidTests := true, laidLooks := .later }
def FieldLinesCardSaid : Prop := Claim7.holds Tryd.pinned (.plain (OpenSpec.ofChange fieldLinesSpec)) fieldLinesCard

/-- THE TIED CARD OF 'turnpikelaw06.FieldWords'. -/
def fieldWordsCard : Claim7 := { stood := { row := fieldWordsRow, standIns := [], harness := (true, "97432279504ff91c1d1258504ab31dfca8d634333e842c9ad43013ac5322ba0a"), looks := false }, kinds := [], alts := [], laidByText := true, laidKinds := [.data, .data, .pinned], laidTests := true, laidLooks := .later }
def FieldWordsCardSaid : Prop := Claim7.holds Tryd.pinned (.plain (OpenSpec.ofChange fieldWordsSpec)) fieldWordsCard

/-- THE TIED CARD OF 'turnpikelaw06.FieldPrints'. -/
def fieldPrintsCard : Claim7 := { stood := { row := fieldPrintsRow, standIns := [], harness := (true, "97432279504ff91c1d1258504ab31dfca8d634333e842c9ad43013ac5322ba0a"), looks := false }, kinds := [], alts := [], laidByText := true, laidKinds := [.data, .data, .pinned], laidTests := true, laidLooks := .later }
def FieldPrintsCardSaid : Prop := Claim7.holds Tryd.pinned (.plain (OpenSpec.ofChange fieldPrintsSpec)) fieldPrintsCard

/-- THE TIED CARD OF 'turnpikelaw06.FieldTurns'. -/
def fieldTurnsCard : Claim7 := { stood := { row := fieldTurnsRow, standIns := [], harness := (true, "97432279504ff91c1d1258504ab31dfca8d634333e842c9ad43013ac5322ba0a"), looks := false }, kinds := [], alts := [], laidByText := true, laidKinds := [.data, .data, .pinned], laidTests := true, laidLooks := .later }
def FieldTurnsCardSaid : Prop := Claim7.holds Tryd.pinned (.plain (OpenSpec.ofChange fieldTurnsSpec)) fieldTurnsCard

/-- THE TIED CARD OF 'turnpikelaw06.FieldTexts'. -/
def fieldTextsCard : Claim7 := { stood := { row := fieldTextsRow, standIns := [], harness := (true, "97432279504ff91c1d1258504ab31dfca8d634333e842c9ad43013ac5322ba0a"), looks := false }, kinds := [], alts := [], laidByText := true, laidKinds := [.data, .data, .pinned], laidTests := true, laidLooks := .later }
def FieldTextsCardSaid : Prop := Claim7.holds Tryd.pinned (.plain (OpenSpec.ofChange fieldTextsSpec)) fieldTextsCard

/-- THE TIED CARD OF 'turnpikelaw06.FieldApart'. -/
def fieldApartCard : Claim7 := { stood := { row := fieldApartRow, standIns := [], harness := (true, "97432279504ff91c1d1258504ab31dfca8d634333e842c9ad43013ac5322ba0a"), looks := false }, kinds := [], alts := [], laidByText := true, laidKinds := [.data, .data, .pinned], laidTests := true, laidLooks := .later }
def FieldApartCardSaid : Prop := Claim7.holds Tryd.pinned (.plain (OpenSpec.ofChange fieldApartSpec)) fieldApartCard

/-- THE TIED CARD OF 'turnpikelaw06.FieldJoins'. -/
def fieldJoinsCard : Claim7 := { stood := { row := fieldJoinsRow, standIns := [], harness := (true, "97432279504ff91c1d1258504ab31dfca8d634333e842c9ad43013ac5322ba0a"), looks := false }, kinds := [], alts := [], laidByText := true, laidKinds := [.data, .data, .pinned], laidTests := true, laidLooks := .later }
def FieldJoinsCardSaid : Prop := Claim7.holds Tryd.pinned (.plain (OpenSpec.ofChange fieldJoinsSpec)) fieldJoinsCard

/-- THE TIED CARD OF 'turnpikelaw06.FieldHops'. -/
def fieldHopsCard : Claim7 := { stood := { row := fieldHopsRow, standIns := [], harness := (true, "97432279504ff91c1d1258504ab31dfca8d634333e842c9ad43013ac5322ba0a"), looks := false }, kinds := [], alts := [], laidByText := true, laidKinds := [.data, .data, .pinned], laidTests := true, laidLooks := .later }
def FieldHopsCardSaid : Prop := Claim7.holds Tryd.pinned (.plain (OpenSpec.ofChange fieldHopsSpec)) fieldHopsCard

/-- THE TIED CARD OF 'turnpikelaw06.FieldBack'. -/
def fieldBackCard : Claim7 := { stood := { row := fieldBackRow, standIns := [], harness := (true, "97432279504ff91c1d1258504ab31dfca8d634333e842c9ad43013ac5322ba0a"), looks := false }, kinds := [], alts := [], laidByText := true, laidKinds := [.data, .data, .pinned], laidTests := true, laidLooks := .later }
def FieldBackCardSaid : Prop := Claim7.holds Tryd.pinned (.plain (OpenSpec.ofChange fieldBackSpec)) fieldBackCard

/-- THE TIED CARD OF 'turnpikelaw06.FieldLooks'. -/
def fieldLooksCard : Claim7 := { stood := { row := fieldLooksRow, standIns := [], harness := (true, "97432279504ff91c1d1258504ab31dfca8d634333e842c9ad43013ac5322ba0a"), looks := false }, kinds := [], alts := [], laidByText := true, laidKinds := [.data, .data, .pinned], laidTests := true, laidLooks := .later }
def FieldLooksCardSaid : Prop := Claim7.holds Tryd.pinned (.plain (OpenSpec.ofChange fieldLooksSpec)) fieldLooksCard

/-- THE TIED CARD OF 'turnpikelaw06.FieldLengths'. -/
def fieldLengthsCard : Claim7 := { stood := { row := fieldLengthsRow, standIns := [], harness := (true, "97432279504ff91c1d1258504ab31dfca8d634333e842c9ad43013ac5322ba0a"), looks := false }, kinds := [], alts := [], laidByText := true, laidKinds := [.data, .data, .pinned], laidTests := true, laidLooks := .later }
def FieldLengthsCardSaid : Prop := Claim7.holds Tryd.pinned (.plain (OpenSpec.ofChange fieldLengthsSpec)) fieldLengthsCard

/-- THE TIED CARD OF 'turnpikelaw06.FieldOne'. -/
def fieldOneCard : Claim7 := { stood := { row := fieldOneRow, standIns := [], harness := (true, "97432279504ff91c1d1258504ab31dfca8d634333e842c9ad43013ac5322ba0a"), looks := false }, kinds := [], alts := [], laidByText := true, laidKinds := [.data, .data, .pinned], laidTests := true, laidLooks := .later }
def FieldOneCardSaid : Prop := Claim7.holds Tryd.pinned (.plain (OpenSpec.ofChange fieldOneSpec)) fieldOneCard

/-- THE TIED CARD OF 'turnpikelaw06.FieldCase'. -/
def fieldCaseCard : Claim7 := { stood := { row := fieldCaseRow, standIns := [], harness := (true, "97432279504ff91c1d1258504ab31dfca8d634333e842c9ad43013ac5322ba0a"), looks := false }, kinds := [], alts := [], laidByText := true, laidKinds := [.data, .data, .pinned], laidTests := true, laidLooks := .later }
def FieldCaseCardSaid : Prop := Claim7.holds Tryd.pinned (.plain (OpenSpec.ofChange fieldCaseSpec)) fieldCaseCard

/-- THE TIED CARD OF 'turnpikelaw06.FieldMemory'. -/
def fieldMemoryCard : Claim7 := { stood := { row := fieldMemoryRow, standIns := [], harness := (true, "97432279504ff91c1d1258504ab31dfca8d634333e842c9ad43013ac5322ba0a"), looks := false }, kinds := [], alts := [], laidByText := true, laidKinds := [.data, .data, .pinned], laidTests := true, laidLooks := .later }
def FieldMemoryCardSaid : Prop := Claim7.holds Tryd.pinned (.plain (OpenSpec.ofChange fieldMemorySpec)) fieldMemoryCard

/-- THE SECOND FORM's CARD OF 'turnpikelaw06.FieldLines'. -/
def fieldLinesUptoCard : Claim7 := { stood := { row := fieldLinesUptoRow, standIns := [], harness := (true, "97432279504ff91c1d1258504ab31dfca8d634333e842c9ad43013ac5322ba0a"), looks := false }, kinds := [], alts := [], laidByText := true, laidKinds := [.data, .data, .pinned], laidTests := true, laidLooks := .later }
def FieldLinesUptoCardSaid : Prop := Claim7.holds Tryd.pinned (.plain (OpenSpec.upto fieldLinesSpec)) fieldLinesUptoCard

/-- THE SECOND FORM's CARD OF 'turnpikelaw06.FieldWords'. -/
def fieldWordsUptoCard : Claim7 := { stood := { row := fieldWordsUptoRow, standIns := [], harness := (true, "97432279504ff91c1d1258504ab31dfca8d634333e842c9ad43013ac5322ba0a"), looks := false }, kinds := [], alts := [], laidByText := true, laidKinds := [.data, .data, .pinned], laidTests := true, laidLooks := .later }
def FieldWordsUptoCardSaid : Prop := Claim7.holds Tryd.pinned (.plain (OpenSpec.upto fieldWordsSpec)) fieldWordsUptoCard

/-- THE SECOND FORM's CARD OF 'turnpikelaw06.FieldPrints'. -/
def fieldPrintsUptoCard : Claim7 := { stood := { row := fieldPrintsUptoRow, standIns := [], harness := (true, "97432279504ff91c1d1258504ab31dfca8d634333e842c9ad43013ac5322ba0a"), looks := false }, kinds := [], alts := [], laidByText := true, laidKinds := [.data, .data, .pinned], laidTests := true, laidLooks := .later }
def FieldPrintsUptoCardSaid : Prop := Claim7.holds Tryd.pinned (.plain (OpenSpec.upto fieldPrintsSpec)) fieldPrintsUptoCard

/-- THE SECOND FORM's CARD OF 'turnpikelaw06.FieldTurns'. -/
def fieldTurnsUptoCard : Claim7 := { stood := { row := fieldTurnsUptoRow, standIns := [], harness := (true, "97432279504ff91c1d1258504ab31dfca8d634333e842c9ad43013ac5322ba0a"), looks := false }, kinds := [], alts := [], laidByText := true, laidKinds := [.data, .data, .pinned], laidTests := true, laidLooks := .later }
def FieldTurnsUptoCardSaid : Prop := Claim7.holds Tryd.pinned (.plain (OpenSpec.upto fieldTurnsSpec)) fieldTurnsUptoCard

/-- THE SECOND FORM's CARD OF 'turnpikelaw06.FieldTexts'. -/
def fieldTextsUptoCard : Claim7 := { stood := { row := fieldTextsUptoRow, standIns := [], harness := (true, "97432279504ff91c1d1258504ab31dfca8d634333e842c9ad43013ac5322ba0a"), looks := false }, kinds := [], alts := [], laidByText := true, laidKinds := [.data, .data, .pinned], laidTests := true, laidLooks := .later }
def FieldTextsUptoCardSaid : Prop := Claim7.holds Tryd.pinned (.plain (OpenSpec.upto fieldTextsSpec)) fieldTextsUptoCard

/-- THE SECOND FORM's CARD OF 'turnpikelaw06.FieldApart'. -/
def fieldApartUptoCard : Claim7 := { stood := { row := fieldApartUptoRow, standIns := [], harness := (true, "97432279504ff91c1d1258504ab31dfca8d634333e842c9ad43013ac5322ba0a"), looks := false }, kinds := [], alts := [], laidByText := true, laidKinds := [.data, .data, .pinned], laidTests := true, laidLooks := .later }
def FieldApartUptoCardSaid : Prop := Claim7.holds Tryd.pinned (.plain (OpenSpec.upto fieldApartSpec)) fieldApartUptoCard

/-- THE SECOND FORM's CARD OF 'turnpikelaw06.FieldJoins'. -/
def fieldJoinsUptoCard : Claim7 := { stood := { row := fieldJoinsUptoRow, standIns := [], harness := (true, "97432279504ff91c1d1258504ab31dfca8d634333e842c9ad43013ac5322ba0a"), looks := false }, kinds := [], alts := [], laidByText := true, laidKinds := [.data, .data, .pinned], laidTests := true, laidLooks := .later }
def FieldJoinsUptoCardSaid : Prop := Claim7.holds Tryd.pinned (.plain (OpenSpec.upto fieldJoinsSpec)) fieldJoinsUptoCard

/-- THE SECOND FORM's CARD OF 'turnpikelaw06.FieldHops'. -/
def fieldHopsUptoCard : Claim7 := { stood := { row := fieldHopsUptoRow, standIns := [], harness := (true, "97432279504ff91c1d1258504ab31dfca8d634333e842c9ad43013ac5322ba0a"), looks := false }, kinds := [], alts := [], laidByText := true, laidKinds := [.data, .data, .pinned], laidTests := true, laidLooks := .later }
def FieldHopsUptoCardSaid : Prop := Claim7.holds Tryd.pinned (.plain (OpenSpec.upto fieldHopsSpec)) fieldHopsUptoCard

/-- THE SECOND FORM's CARD OF 'turnpikelaw06.FieldBack'. -/
def fieldBackUptoCard : Claim7 := { stood := { row := fieldBackUptoRow, standIns := [], harness := (true, "97432279504ff91c1d1258504ab31dfca8d634333e842c9ad43013ac5322ba0a"), looks := false }, kinds := [], alts := [], laidByText := true, laidKinds := [.data, .data, .pinned], laidTests := true, laidLooks := .later }
def FieldBackUptoCardSaid : Prop := Claim7.holds Tryd.pinned (.plain (OpenSpec.upto fieldBackSpec)) fieldBackUptoCard

/-- THE SECOND FORM's CARD OF 'turnpikelaw06.FieldLooks'. -/
def fieldLooksUptoCard : Claim7 := { stood := { row := fieldLooksUptoRow, standIns := [], harness := (true, "97432279504ff91c1d1258504ab31dfca8d634333e842c9ad43013ac5322ba0a"), looks := false }, kinds := [], alts := [], laidByText := true, laidKinds := [.data, .data, .pinned], laidTests := true, laidLooks := .later }
def FieldLooksUptoCardSaid : Prop := Claim7.holds Tryd.pinned (.plain (OpenSpec.upto fieldLooksSpec)) fieldLooksUptoCard

/-- THE SECOND FORM's CARD OF 'turnpikelaw06.FieldLengths'. -/
def fieldLengthsUptoCard : Claim7 := { stood := { row := fieldLengthsUptoRow, standIns := [], harness := (true, "97432279504ff91c1d1258504ab31dfca8d634333e842c9ad43013ac5322ba0a"), looks := false }, kinds := [], alts := [], laidByText := true, laidKinds := [.data, .data, .pinned], laidTests := true, laidLooks := .later }
def FieldLengthsUptoCardSaid : Prop := Claim7.holds Tryd.pinned (.plain (OpenSpec.upto fieldLengthsSpec)) fieldLengthsUptoCard

/-- THE SECOND FORM's CARD OF 'turnpikelaw06.FieldOne'. -/
def fieldOneUptoCard : Claim7 := { stood := { row := fieldOneUptoRow, standIns := [], harness := (true, "97432279504ff91c1d1258504ab31dfca8d634333e842c9ad43013ac5322ba0a"), looks := false }, kinds := [], alts := [], laidByText := true, laidKinds := [.data, .data, .pinned], laidTests := true, laidLooks := .later }
def FieldOneUptoCardSaid : Prop := Claim7.holds Tryd.pinned (.plain (OpenSpec.upto fieldOneSpec)) fieldOneUptoCard

/-- THE SECOND FORM's CARD OF 'turnpikelaw06.FieldCase'. -/
def fieldCaseUptoCard : Claim7 := { stood := { row := fieldCaseUptoRow, standIns := [], harness := (true, "97432279504ff91c1d1258504ab31dfca8d634333e842c9ad43013ac5322ba0a"), looks := false }, kinds := [], alts := [], laidByText := true, laidKinds := [.data, .data, .pinned], laidTests := true, laidLooks := .later }
def FieldCaseUptoCardSaid : Prop := Claim7.holds Tryd.pinned (.plain (OpenSpec.upto fieldCaseSpec)) fieldCaseUptoCard

/-- THE SECOND FORM's CARD OF 'turnpikelaw06.FieldMemory'. -/
def fieldMemoryUptoCard : Claim7 := { stood := { row := fieldMemoryUptoRow, standIns := [], harness := (true, "97432279504ff91c1d1258504ab31dfca8d634333e842c9ad43013ac5322ba0a"), looks := false }, kinds := [], alts := [], laidByText := true, laidKinds := [.data, .data, .pinned], laidTests := true, laidLooks := .later }
def FieldMemoryUptoCardSaid : Prop := Claim7.holds Tryd.pinned (.plain (OpenSpec.upto fieldMemorySpec)) fieldMemoryUptoCard
end Rows
end Go.Proofs.YtamagbdkcfmfmaaDoor
