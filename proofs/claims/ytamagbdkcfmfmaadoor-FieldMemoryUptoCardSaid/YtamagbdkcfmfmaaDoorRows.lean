/-
  NARROWER THAN 'FOR EVERY INPUT', by the rows' own cells (each row's printed sentence says how): FieldLines: laid · FieldWords: laid · FieldPrints: laid · FieldTurns: laid · FieldTexts: laid · FieldApart: laid · FieldJoins: laid · FieldHops: laid · FieldBack: laid · FieldLooks: laid · FieldLengths: laid · FieldOne: laid · FieldCase: laid · FieldMemory: laid.
  DERIVED. THE GIVEN ROWS OF THIS SEAT. 14 by the template 'for every input the law returns true; each argument reads behind the call as it read before'; 0 by the template 'total and deterministic' (their statements: YtamagbdkcfmfmaaDoorTotals.lean).
  GIVEN WITH THE SEED: the statements are not yours to turn. If you find one false, say at which input.
  Laid BY PROGRAM, IN A SANDBOX (cutbox-rows.mjs): the forced cells as the released guide's own fill.sh prints them over the translation 0e5f0207692d8aa3… (all of the seat's roots in one cut). By AI agents, Wed Nov 11 2026. No macro, syntax, notation, axiom, sorry.
-/
import Derived.Test.YtamagbdkcfmfmaaDoorChecked
import GoSem.PinnedTables
import GoSem.Claim
import GoSem.ClaimJoined
import GoSem.ClaimMapViews
import Derived.JoinedTies
import Derived.KernelRfl
namespace Go.Proofs.YtamagbdkcfmfmaaDoor
/- THE CELL 'sum', in the pinned program and in every row, IS THE sha256 OF THE DUMP (.gsa) THAT YtamagbdkcfmfmaaDoorProg.lean LOADS. Nothing in Lean hashes anything: it is a label: what it is worth is what the hold of that sum in a sandbox is worth. -/
noncomputable def Tryd.pinned : Pinned := { name := "ytamagbdkcfmfmaadoor", sum := "0e5f0207692d8aa3ffb1ee6373ca9141669494f536bde84badf9cdb792289615", checked := Tryd.checked }
namespace Rows
def none {H : Type} : Left H := { results := [], args := [] }

/- WHAT THE LISTED PACKAGE-LEVEL VARIABLES READ AS WHEN THE CALL BEGINS. Each datum BY PROGRAM (the guide's laid-datum.mjs) off the statement by which the dump's own 'gosem.cut.vars' lays the variable. In a bare row this is a premise. The card (YtamagbdkcfmfmaaDoorCards.lean) ties it to the program's text. -/
def laid_unicode_utf8_acceptRanges {H : Type} : DataW H := .agg [.agg [.lit (.int .u8 128), .lit (.int .u8 191)], .agg [.lit (.int .u8 160), .lit (.int .u8 191)], .agg [.lit (.int .u8 128), .lit (.int .u8 159)], .agg [.lit (.int .u8 144), .lit (.int .u8 191)], .agg [.lit (.int .u8 128), .lit (.int .u8 143)], .agg [.lit (.int .u8 0), .lit (.int .u8 0)], .agg [.lit (.int .u8 0), .lit (.int .u8 0)], .agg [.lit (.int .u8 0), .lit (.int .u8 0)], .agg [.lit (.int .u8 0), .lit (.int .u8 0)], .agg [.lit (.int .u8 0), .lit (.int .u8 0)], .agg [.lit (.int .u8 0), .lit (.int .u8 0)], .agg [.lit (.int .u8 0), .lit (.int .u8 0)], .agg [.lit (.int .u8 0), .lit (.int .u8 0)], .agg [.lit (.int .u8 0), .lit (.int .u8 0)], .agg [.lit (.int .u8 0), .lit (.int .u8 0)], .agg [.lit (.int .u8 0), .lit (.int .u8 0)]]
def laid_turnpike_octet_signs {H : Type} : DataW H := .agg [.lit (.int .u32 0), .lit (.int .u32 67071226), .lit (.int .u32 3355443198), .lit (.int .u32 1476395007)]
/-- One of Go's own tables, pinned by name: the form's constant. -/
def laid_unicode_utf8_first : DataW Unit := Go.Pinned.utf8First

/-- 'turnpikelaw06.FieldLines': WHATEVER THE INPUT: true; the input reads as it did. -/
def fieldLinesSpec : ChangeSpec := { name := "fieldLines", fn := fun _ => fun
  | [d] => { results := [.lit (.bool true)], args := [d] }
  | _ => none }
def fieldLinesRow : OpenClaim := { program := "ytamagbdkcfmfmaadoor", sum := "0e5f0207692d8aa3ffb1ee6373ca9141669494f536bde84badf9cdb792289615", func := "turnpike/turnpikelaw06.FieldLines", spec := "fieldLines", inPlace := ["internal/bytealg.IndexByteString", "internal/bytealg.IndexString"], named := ["turnpike/octet.signs", "unicode/utf8.first", "unicode/utf8.acceptRanges", "internal/bytealg.MaxLen"], apart := false, laid := [("unicode/utf8.acceptRanges", laid_unicode_utf8_acceptRanges), ("turnpike/octet.signs", laid_turnpike_octet_signs), ("unicode/utf8.first", laid_unicode_utf8_first)] }
def FieldLinesSaid : Prop := fieldLinesRow.holds Tryd.pinned (OpenSpec.ofChange fieldLinesSpec)

/-- ITS FALSE NEIGHBOUR: 'it returns false'. Refute it at one input. -/
def fieldLinesWrong : ChangeSpec := { name := "fieldLines", fn := fun _ => fun
  | [d] => { results := [.lit (.bool false)], args := [d] }
  | _ => none }
def FieldLinesWrongFalsely : Prop := fieldLinesRow.holds Tryd.pinned (OpenSpec.ofChange fieldLinesWrong)

/-- 'turnpikelaw06.FieldWords': WHATEVER THE INPUT: true; the input reads as it did. -/
def fieldWordsSpec : ChangeSpec := { name := "fieldWords", fn := fun _ => fun
  | [d] => { results := [.lit (.bool true)], args := [d] }
  | _ => none }
def fieldWordsRow : OpenClaim := { program := "ytamagbdkcfmfmaadoor", sum := "0e5f0207692d8aa3ffb1ee6373ca9141669494f536bde84badf9cdb792289615", func := "turnpike/turnpikelaw06.FieldWords", spec := "fieldWords", inPlace := ["internal/bytealg.IndexByteString", "internal/bytealg.IndexString"], named := ["turnpike/octet.signs", "unicode/utf8.first", "unicode/utf8.acceptRanges", "internal/bytealg.MaxLen"], apart := false, laid := [("unicode/utf8.acceptRanges", laid_unicode_utf8_acceptRanges), ("turnpike/octet.signs", laid_turnpike_octet_signs), ("unicode/utf8.first", laid_unicode_utf8_first)] }
def FieldWordsSaid : Prop := fieldWordsRow.holds Tryd.pinned (OpenSpec.ofChange fieldWordsSpec)

/-- ITS FALSE NEIGHBOUR: 'it returns false'. Refute it at one input. -/
def fieldWordsWrong : ChangeSpec := { name := "fieldWords", fn := fun _ => fun
  | [d] => { results := [.lit (.bool false)], args := [d] }
  | _ => none }
def FieldWordsWrongFalsely : Prop := fieldWordsRow.holds Tryd.pinned (OpenSpec.ofChange fieldWordsWrong)

/-- 'turnpikelaw06.FieldPrints': WHATEVER THE INPUT: true; the input reads as it did. -/
def fieldPrintsSpec : ChangeSpec := { name := "fieldPrints", fn := fun _ => fun
  | [d] => { results := [.lit (.bool true)], args := [d] }
  | _ => none }
def fieldPrintsRow : OpenClaim := { program := "ytamagbdkcfmfmaadoor", sum := "0e5f0207692d8aa3ffb1ee6373ca9141669494f536bde84badf9cdb792289615", func := "turnpike/turnpikelaw06.FieldPrints", spec := "fieldPrints", inPlace := ["internal/bytealg.IndexByteString", "internal/bytealg.IndexString", "internal/abi.NoEscape"], named := ["turnpike/octet.signs", "unicode/utf8.first", "unicode/utf8.acceptRanges", "internal/bytealg.MaxLen"], apart := false, laid := [("unicode/utf8.acceptRanges", laid_unicode_utf8_acceptRanges), ("turnpike/octet.signs", laid_turnpike_octet_signs), ("unicode/utf8.first", laid_unicode_utf8_first)] }
def FieldPrintsSaid : Prop := fieldPrintsRow.holds Tryd.pinned (OpenSpec.ofChange fieldPrintsSpec)

/-- ITS FALSE NEIGHBOUR: 'it returns false'. Refute it at one input. -/
def fieldPrintsWrong : ChangeSpec := { name := "fieldPrints", fn := fun _ => fun
  | [d] => { results := [.lit (.bool false)], args := [d] }
  | _ => none }
def FieldPrintsWrongFalsely : Prop := fieldPrintsRow.holds Tryd.pinned (OpenSpec.ofChange fieldPrintsWrong)

/-- 'turnpikelaw06.FieldTurns': WHATEVER THE INPUT: true; the input reads as it did. -/
def fieldTurnsSpec : ChangeSpec := { name := "fieldTurns", fn := fun _ => fun
  | [d1, d2, d3] => { results := [.lit (.bool true)], args := [d1, d2, d3] }
  | _ => none }
def fieldTurnsRow : OpenClaim := { program := "ytamagbdkcfmfmaadoor", sum := "0e5f0207692d8aa3ffb1ee6373ca9141669494f536bde84badf9cdb792289615", func := "turnpike/turnpikelaw06.FieldTurns", spec := "fieldTurns", inPlace := ["internal/bytealg.IndexByteString", "internal/bytealg.IndexString"], unfollowed := true, recurses := true, named := ["turnpike/octet.signs", "unicode/utf8.first", "unicode/utf8.acceptRanges", "internal/bytealg.MaxLen"], apart := false, laid := [("unicode/utf8.acceptRanges", laid_unicode_utf8_acceptRanges), ("turnpike/octet.signs", laid_turnpike_octet_signs), ("unicode/utf8.first", laid_unicode_utf8_first)] }
def FieldTurnsSaid : Prop := fieldTurnsRow.holds Tryd.pinned (OpenSpec.ofChange fieldTurnsSpec)

/-- ITS FALSE NEIGHBOUR: 'it returns false'. Refute it at one input. -/
def fieldTurnsWrong : ChangeSpec := { name := "fieldTurns", fn := fun _ => fun
  | [d1, d2, d3] => { results := [.lit (.bool false)], args := [d1, d2, d3] }
  | _ => none }
def FieldTurnsWrongFalsely : Prop := fieldTurnsRow.holds Tryd.pinned (OpenSpec.ofChange fieldTurnsWrong)

/-- 'turnpikelaw06.FieldTexts': WHATEVER THE INPUT: true; the input reads as it did. -/
def fieldTextsSpec : ChangeSpec := { name := "fieldTexts", fn := fun _ => fun
  | [d] => { results := [.lit (.bool true)], args := [d] }
  | _ => none }
def fieldTextsRow : OpenClaim := { program := "ytamagbdkcfmfmaadoor", sum := "0e5f0207692d8aa3ffb1ee6373ca9141669494f536bde84badf9cdb792289615", func := "turnpike/turnpikelaw06.FieldTexts", spec := "fieldTexts", inPlace := ["internal/bytealg.IndexByteString", "internal/bytealg.IndexString"], named := ["turnpike/octet.signs", "unicode/utf8.first", "unicode/utf8.acceptRanges", "internal/bytealg.MaxLen"], apart := false, laid := [("unicode/utf8.acceptRanges", laid_unicode_utf8_acceptRanges), ("turnpike/octet.signs", laid_turnpike_octet_signs), ("unicode/utf8.first", laid_unicode_utf8_first)] }
def FieldTextsSaid : Prop := fieldTextsRow.holds Tryd.pinned (OpenSpec.ofChange fieldTextsSpec)

/-- ITS FALSE NEIGHBOUR: 'it returns false'. Refute it at one input. -/
def fieldTextsWrong : ChangeSpec := { name := "fieldTexts", fn := fun _ => fun
  | [d] => { results := [.lit (.bool false)], args := [d] }
  | _ => none }
def FieldTextsWrongFalsely : Prop := fieldTextsRow.holds Tryd.pinned (OpenSpec.ofChange fieldTextsWrong)

/-- 'turnpikelaw06.FieldApart': WHATEVER THE INPUT: true; the input reads as it did. -/
def fieldApartSpec : ChangeSpec := { name := "fieldApart", fn := fun _ => fun
  | [d1, d2, d3] => { results := [.lit (.bool true)], args := [d1, d2, d3] }
  | _ => none }
def fieldApartRow : OpenClaim := { program := "ytamagbdkcfmfmaadoor", sum := "0e5f0207692d8aa3ffb1ee6373ca9141669494f536bde84badf9cdb792289615", func := "turnpike/turnpikelaw06.FieldApart", spec := "fieldApart", inPlace := ["internal/bytealg.IndexByteString", "internal/bytealg.IndexString", "internal/abi.NoEscape"], unfollowed := true, recurses := true, named := ["turnpike/octet.signs", "unicode/utf8.first", "unicode/utf8.acceptRanges", "internal/bytealg.MaxLen"], apart := false, laid := [("unicode/utf8.acceptRanges", laid_unicode_utf8_acceptRanges), ("turnpike/octet.signs", laid_turnpike_octet_signs), ("unicode/utf8.first", laid_unicode_utf8_first)] }
def FieldApartSaid : Prop := fieldApartRow.holds Tryd.pinned (OpenSpec.ofChange fieldApartSpec)

/-- ITS FALSE NEIGHBOUR: 'it returns false'. Refute it at one input. -/
def fieldApartWrong : ChangeSpec := { name := "fieldApart", fn := fun _ => fun
  | [d1, d2, d3] => { results := [.lit (.bool false)], args := [d1, d2, d3] }
  | _ => none }
def FieldApartWrongFalsely : Prop := fieldApartRow.holds Tryd.pinned (OpenSpec.ofChange fieldApartWrong)

/-- 'turnpikelaw06.FieldJoins': WHATEVER THE INPUT: true; the input reads as it did. -/
def fieldJoinsSpec : ChangeSpec := { name := "fieldJoins", fn := fun _ => fun
  | [d1, d2] => { results := [.lit (.bool true)], args := [d1, d2] }
  | _ => none }
def fieldJoinsRow : OpenClaim := { program := "ytamagbdkcfmfmaadoor", sum := "0e5f0207692d8aa3ffb1ee6373ca9141669494f536bde84badf9cdb792289615", func := "turnpike/turnpikelaw06.FieldJoins", spec := "fieldJoins", inPlace := ["internal/bytealg.IndexByteString", "internal/bytealg.IndexString", "internal/abi.NoEscape", "internal/bytealg.MakeNoZero"], named := ["turnpike/octet.signs", "unicode/utf8.first", "unicode/utf8.acceptRanges", "internal/bytealg.MaxLen"], apart := false, laid := [("unicode/utf8.acceptRanges", laid_unicode_utf8_acceptRanges), ("turnpike/octet.signs", laid_turnpike_octet_signs), ("unicode/utf8.first", laid_unicode_utf8_first)] }
def FieldJoinsSaid : Prop := fieldJoinsRow.holds Tryd.pinned (OpenSpec.ofChange fieldJoinsSpec)

/-- ITS FALSE NEIGHBOUR: 'it returns false'. Refute it at one input. -/
def fieldJoinsWrong : ChangeSpec := { name := "fieldJoins", fn := fun _ => fun
  | [d1, d2] => { results := [.lit (.bool false)], args := [d1, d2] }
  | _ => none }
def FieldJoinsWrongFalsely : Prop := fieldJoinsRow.holds Tryd.pinned (OpenSpec.ofChange fieldJoinsWrong)

/-- 'turnpikelaw06.FieldHops': WHATEVER THE INPUT: true; the input reads as it did. -/
def fieldHopsSpec : ChangeSpec := { name := "fieldHops", fn := fun _ => fun
  | [d1, d2] => { results := [.lit (.bool true)], args := [d1, d2] }
  | _ => none }
def fieldHopsRow : OpenClaim := { program := "ytamagbdkcfmfmaadoor", sum := "0e5f0207692d8aa3ffb1ee6373ca9141669494f536bde84badf9cdb792289615", func := "turnpike/turnpikelaw06.FieldHops", spec := "fieldHops", inPlace := ["internal/bytealg.IndexByteString", "internal/bytealg.IndexString", "internal/abi.NoEscape"], unfollowed := true, recurses := true, named := ["turnpike/octet.signs", "unicode/utf8.first", "unicode/utf8.acceptRanges", "internal/bytealg.MaxLen"], apart := false, laid := [("unicode/utf8.acceptRanges", laid_unicode_utf8_acceptRanges), ("turnpike/octet.signs", laid_turnpike_octet_signs), ("unicode/utf8.first", laid_unicode_utf8_first)] }
def FieldHopsSaid : Prop := fieldHopsRow.holds Tryd.pinned (OpenSpec.ofChange fieldHopsSpec)

/-- ITS FALSE NEIGHBOUR: 'it returns false'. Refute it at one input. -/
def fieldHopsWrong : ChangeSpec := { name := "fieldHops", fn := fun _ => fun
  | [d1, d2] => { results := [.lit (.bool false)], args := [d1, d2] }
  | _ => none }
def FieldHopsWrongFalsely : Prop := fieldHopsRow.holds Tryd.pinned (OpenSpec.ofChange fieldHopsWrong)

/-- 'turnpikelaw06.FieldBack': WHATEVER THE INPUT: true; the input reads as it did. -/
def fieldBackSpec : ChangeSpec := { name := "fieldBack", fn := fun _ => fun
  | [d] => { results := [.lit (.bool true)], args := [d] }
  | _ => none }
def fieldBackRow : OpenClaim := { program := "ytamagbdkcfmfmaadoor", sum := "0e5f0207692d8aa3ffb1ee6373ca9141669494f536bde84badf9cdb792289615", func := "turnpike/turnpikelaw06.FieldBack", spec := "fieldBack", inPlace := ["internal/bytealg.IndexByteString", "internal/bytealg.IndexString", "internal/abi.NoEscape"], named := ["turnpike/octet.signs", "unicode/utf8.first", "unicode/utf8.acceptRanges", "internal/bytealg.MaxLen"], apart := false, laid := [("unicode/utf8.acceptRanges", laid_unicode_utf8_acceptRanges), ("turnpike/octet.signs", laid_turnpike_octet_signs), ("unicode/utf8.first", laid_unicode_utf8_first)] }
def FieldBackSaid : Prop := fieldBackRow.holds Tryd.pinned (OpenSpec.ofChange fieldBackSpec)

/-- ITS FALSE NEIGHBOUR: 'it returns false'. Refute it at one input. -/
def fieldBackWrong : ChangeSpec := { name := "fieldBack", fn := fun _ => fun
  | [d] => { results := [.lit (.bool false)], args := [d] }
  | _ => none }
def FieldBackWrongFalsely : Prop := fieldBackRow.holds Tryd.pinned (OpenSpec.ofChange fieldBackWrong)

/-- 'turnpikelaw06.FieldLooks': WHATEVER THE INPUT: true; the input reads as it did. -/
def fieldLooksSpec : ChangeSpec := { name := "fieldLooks", fn := fun _ => fun
  | [d1, d2, d3] => { results := [.lit (.bool true)], args := [d1, d2, d3] }
  | _ => none }
def fieldLooksRow : OpenClaim := { program := "ytamagbdkcfmfmaadoor", sum := "0e5f0207692d8aa3ffb1ee6373ca9141669494f536bde84badf9cdb792289615", func := "turnpike/turnpikelaw06.FieldLooks", spec := "fieldLooks", inPlace := ["internal/bytealg.IndexByteString", "internal/bytealg.IndexString", "internal/abi.NoEscape", "internal/bytealg.MakeNoZero"], named := ["turnpike/octet.signs", "unicode/utf8.first", "unicode/utf8.acceptRanges", "internal/bytealg.MaxLen"], apart := false, laid := [("unicode/utf8.acceptRanges", laid_unicode_utf8_acceptRanges), ("turnpike/octet.signs", laid_turnpike_octet_signs), ("unicode/utf8.first", laid_unicode_utf8_first)] }
def FieldLooksSaid : Prop := fieldLooksRow.holds Tryd.pinned (OpenSpec.ofChange fieldLooksSpec)

/-- ITS FALSE NEIGHBOUR: 'it returns false'. Refute it at one input. -/
def fieldLooksWrong : ChangeSpec := { name := "fieldLooks", fn := fun _ => fun
  | [d1, d2, d3] => { results := [.lit (.bool false)], args := [d1, d2, d3] }
  | _ => none }
def FieldLooksWrongFalsely : Prop := fieldLooksRow.holds Tryd.pinned (OpenSpec.ofChange fieldLooksWrong)

/-- 'turnpikelaw06.FieldLengths': WHATEVER THE INPUT: true; the input reads as it did. -/
def fieldLengthsSpec : ChangeSpec := { name := "fieldLengths", fn := fun _ => fun
  | [d1, d2] => { results := [.lit (.bool true)], args := [d1, d2] }
  | _ => none }
def fieldLengthsRow : OpenClaim := { program := "ytamagbdkcfmfmaadoor", sum := "0e5f0207692d8aa3ffb1ee6373ca9141669494f536bde84badf9cdb792289615", func := "turnpike/turnpikelaw06.FieldLengths", spec := "fieldLengths", inPlace := ["internal/bytealg.IndexByteString", "internal/bytealg.IndexString", "internal/abi.NoEscape"], named := ["turnpike/octet.signs", "unicode/utf8.first", "unicode/utf8.acceptRanges", "internal/bytealg.MaxLen"], apart := false, laid := [("unicode/utf8.acceptRanges", laid_unicode_utf8_acceptRanges), ("turnpike/octet.signs", laid_turnpike_octet_signs), ("unicode/utf8.first", laid_unicode_utf8_first)] }
def FieldLengthsSaid : Prop := fieldLengthsRow.holds Tryd.pinned (OpenSpec.ofChange fieldLengthsSpec)

/-- ITS FALSE NEIGHBOUR: 'it returns false'. Refute it at one input. -/
def fieldLengthsWrong : ChangeSpec := { name := "fieldLengths", fn := fun _ => fun
  | [d1, d2] => { results := [.lit (.bool false)], args := [d1, d2] }
  | _ => none }
def FieldLengthsWrongFalsely : Prop := fieldLengthsRow.holds Tryd.pinned (OpenSpec.ofChange fieldLengthsWrong)

/-- 'turnpikelaw06.FieldOne': WHATEVER THE INPUT: true; the input reads as it did. -/
def fieldOneSpec : ChangeSpec := { name := "fieldOne", fn := fun _ => fun
  | [d1, d2] => { results := [.lit (.bool true)], args := [d1, d2] }
  | _ => none }
def fieldOneRow : OpenClaim := { program := "ytamagbdkcfmfmaadoor", sum := "0e5f0207692d8aa3ffb1ee6373ca9141669494f536bde84badf9cdb792289615", func := "turnpike/turnpikelaw06.FieldOne", spec := "fieldOne", inPlace := ["internal/bytealg.IndexByteString", "internal/bytealg.IndexString", "internal/abi.NoEscape"], named := ["turnpike/octet.signs", "unicode/utf8.first", "unicode/utf8.acceptRanges", "internal/bytealg.MaxLen"], apart := false, laid := [("unicode/utf8.acceptRanges", laid_unicode_utf8_acceptRanges), ("turnpike/octet.signs", laid_turnpike_octet_signs), ("unicode/utf8.first", laid_unicode_utf8_first)] }
def FieldOneSaid : Prop := fieldOneRow.holds Tryd.pinned (OpenSpec.ofChange fieldOneSpec)

/-- ITS FALSE NEIGHBOUR: 'it returns false'. Refute it at one input. -/
def fieldOneWrong : ChangeSpec := { name := "fieldOne", fn := fun _ => fun
  | [d1, d2] => { results := [.lit (.bool false)], args := [d1, d2] }
  | _ => none }
def FieldOneWrongFalsely : Prop := fieldOneRow.holds Tryd.pinned (OpenSpec.ofChange fieldOneWrong)

/-- 'turnpikelaw06.FieldCase': WHATEVER THE INPUT: true; the input reads as it did. -/
def fieldCaseSpec : ChangeSpec := { name := "fieldCase", fn := fun _ => fun
  | [d1, d2, d3] => { results := [.lit (.bool true)], args := [d1, d2, d3] }
  | _ => none }
def fieldCaseRow : OpenClaim := { program := "ytamagbdkcfmfmaadoor", sum := "0e5f0207692d8aa3ffb1ee6373ca9141669494f536bde84badf9cdb792289615", func := "turnpike/turnpikelaw06.FieldCase", spec := "fieldCase", inPlace := ["internal/bytealg.IndexByteString", "internal/bytealg.IndexString", "internal/abi.NoEscape"], unfollowed := true, recurses := true, named := ["turnpike/octet.signs", "unicode/utf8.first", "unicode/utf8.acceptRanges", "internal/bytealg.MaxLen"], apart := false, laid := [("unicode/utf8.acceptRanges", laid_unicode_utf8_acceptRanges), ("turnpike/octet.signs", laid_turnpike_octet_signs), ("unicode/utf8.first", laid_unicode_utf8_first)] }
def FieldCaseSaid : Prop := fieldCaseRow.holds Tryd.pinned (OpenSpec.ofChange fieldCaseSpec)

/-- ITS FALSE NEIGHBOUR: 'it returns false'. Refute it at one input. -/
def fieldCaseWrong : ChangeSpec := { name := "fieldCase", fn := fun _ => fun
  | [d1, d2, d3] => { results := [.lit (.bool false)], args := [d1, d2, d3] }
  | _ => none }
def FieldCaseWrongFalsely : Prop := fieldCaseRow.holds Tryd.pinned (OpenSpec.ofChange fieldCaseWrong)

/-- 'turnpikelaw06.FieldMemory': WHATEVER THE INPUT: true; the input reads as it did. -/
def fieldMemorySpec : ChangeSpec := { name := "fieldMemory", fn := fun _ => fun
  | [d1, d2, d3] => { results := [.lit (.bool true)], args := [d1, d2, d3] }
  | _ => none }
def fieldMemoryRow : OpenClaim := { program := "ytamagbdkcfmfmaadoor", sum := "0e5f0207692d8aa3ffb1ee6373ca9141669494f536bde84badf9cdb792289615", func := "turnpike/turnpikelaw06.FieldMemory", spec := "fieldMemory", inPlace := ["internal/bytealg.IndexByteString", "internal/bytealg.IndexString", "internal/abi.NoEscape"], unfollowed := true, recurses := true, named := ["turnpike/octet.signs", "unicode/utf8.first", "unicode/utf8.acceptRanges", "internal/bytealg.MaxLen"], apart := false, laid := [("unicode/utf8.acceptRanges", laid_unicode_utf8_acceptRanges), ("turnpike/octet.signs", laid_turnpike_octet_signs), ("unicode/utf8.first", laid_unicode_utf8_first)] }
def FieldMemorySaid : Prop := fieldMemoryRow.holds Tryd.pinned (OpenSpec.ofChange fieldMemorySpec)

/-- ITS FALSE NEIGHBOUR: 'it returns false'. Refute it at one input. -/
def fieldMemoryWrong : ChangeSpec := { name := "fieldMemory", fn := fun _ => fun
  | [d1, d2, d3] => { results := [.lit (.bool false)], args := [d1, d2, d3] }
  | _ => none }
def FieldMemoryWrongFalsely : Prop := fieldMemoryRow.holds Tryd.pinned (OpenSpec.ofChange fieldMemoryWrong)

/- THE SECOND FORM. 'bulk': how many values and letters a reading holds, each counted each time it is reached (what is shared counts as often as it is met; a slice's spare places count too). A statement '..UptoSaid' is the law's where the arguments, and the package variables that the reading takes, are together of bulk at most 1048576: NARROWER than '..Said'. Prove '..Said' where nothing that the law and all that it calls make is longer than what came in: it says more and counts as full. Else prove '..UptoSaid'. A law counts once. -/
mutual
def uptoBulk {H : Type} : DataW H → Nat
  | .lit (.string bytes) => bytes.length + 1
  | .lit _ => 1
  | .nil => 1
  | .ptr d => uptoBulk d + 1
  | .slice elems spare => uptoBulkAll elems + uptoBulkAll spare + 1
  | .agg parts => uptoBulkAll parts + 1
  | .iface _ d => uptoBulk d + 1
  | .map entries => uptoBulkEntries entries + 1
  | .held _ => 1
def uptoBulkAll {H : Type} : List (DataW H) → Nat
  | [] => 0
  | d :: r => uptoBulk d + uptoBulkAll r
def uptoBulkEntries {H : Type} : List (Lit × DataW H) → Nat
  | [] => 0
  | x :: r => uptoBulkEntry x + uptoBulkEntries r
def uptoBulkEntry {H : Type} : Lit × DataW H → Nat
  | (.string bytes, d) => bytes.length + uptoBulk d + 1
  | (_, d) => uptoBulk d + 1
 end
def uptoSmall : (H : Type) → List (DataW H) → Bool := fun _ ds => decide (uptoBulkAll ds ≤ 1048576)
def OpenSpec.upto (s : _root_.Go.ChangeSpec) : _root_.Go.OpenSpec := { _root_.Go.OpenSpec.ofChange s with cond := some uptoSmall }

/-- 'turnpikelaw06.FieldLines', WHERE WHAT IT READS IS OF BULK AT MOST 1048576: true; the input reads as it did. -/
def fieldLinesUptoRow : OpenClaim := { program := "ytamagbdkcfmfmaadoor", sum := "0e5f0207692d8aa3ffb1ee6373ca9141669494f536bde84badf9cdb792289615", func := "turnpike/turnpikelaw06.FieldLines", spec := "fieldLines", inPlace := ["internal/bytealg.IndexByteString", "internal/bytealg.IndexString"], named := ["turnpike/octet.signs", "unicode/utf8.first", "unicode/utf8.acceptRanges", "internal/bytealg.MaxLen"], apart := false, laid := [("unicode/utf8.acceptRanges", laid_unicode_utf8_acceptRanges), ("turnpike/octet.signs", laid_turnpike_octet_signs), ("unicode/utf8.first", laid_unicode_utf8_first)], narrowed := true }
def FieldLinesUptoSaid : Prop := fieldLinesUptoRow.holds Tryd.pinned (OpenSpec.upto fieldLinesSpec)

/-- 'turnpikelaw06.FieldWords', WHERE WHAT IT READS IS OF BULK AT MOST 1048576: true; the input reads as it did. -/
def fieldWordsUptoRow : OpenClaim := { program := "ytamagbdkcfmfmaadoor", sum := "0e5f0207692d8aa3ffb1ee6373ca9141669494f536bde84badf9cdb792289615", func := "turnpike/turnpikelaw06.FieldWords", spec := "fieldWords", inPlace := ["internal/bytealg.IndexByteString", "internal/bytealg.IndexString"], named := ["turnpike/octet.signs", "unicode/utf8.first", "unicode/utf8.acceptRanges", "internal/bytealg.MaxLen"], apart := false, laid := [("unicode/utf8.acceptRanges", laid_unicode_utf8_acceptRanges), ("turnpike/octet.signs", laid_turnpike_octet_signs), ("unicode/utf8.first", laid_unicode_utf8_first)], narrowed := true }
def FieldWordsUptoSaid : Prop := fieldWordsUptoRow.holds Tryd.pinned (OpenSpec.upto fieldWordsSpec)

/-- 'turnpikelaw06.FieldPrints', WHERE WHAT IT READS IS OF BULK AT MOST 1048576: true; the input reads as it did. -/
def fieldPrintsUptoRow : OpenClaim := { program := "ytamagbdkcfmfmaadoor", sum := "0e5f0207692d8aa3ffb1ee6373ca9141669494f536bde84badf9cdb792289615", func := "turnpike/turnpikelaw06.FieldPrints", spec := "fieldPrints", inPlace := ["internal/bytealg.IndexByteString", "internal/bytealg.IndexString", "internal/abi.NoEscape"], named := ["turnpike/octet.signs", "unicode/utf8.first", "unicode/utf8.acceptRanges", "internal/bytealg.MaxLen"], apart := false, laid := [("unicode/utf8.acceptRanges", laid_unicode_utf8_acceptRanges), ("turnpike/octet.signs", laid_turnpike_octet_signs), ("unicode/utf8.first", laid_unicode_utf8_first)], narrowed := true }
def FieldPrintsUptoSaid : Prop := fieldPrintsUptoRow.holds Tryd.pinned (OpenSpec.upto fieldPrintsSpec)

/-- 'turnpikelaw06.FieldTurns', WHERE WHAT IT READS IS OF BULK AT MOST 1048576: true; the input reads as it did. -/
def fieldTurnsUptoRow : OpenClaim := { program := "ytamagbdkcfmfmaadoor", sum := "0e5f0207692d8aa3ffb1ee6373ca9141669494f536bde84badf9cdb792289615", func := "turnpike/turnpikelaw06.FieldTurns", spec := "fieldTurns", inPlace := ["internal/bytealg.IndexByteString", "internal/bytealg.IndexString"], unfollowed := true, recurses := true, named := ["turnpike/octet.signs", "unicode/utf8.first", "unicode/utf8.acceptRanges", "internal/bytealg.MaxLen"], apart := false, laid := [("unicode/utf8.acceptRanges", laid_unicode_utf8_acceptRanges), ("turnpike/octet.signs", laid_turnpike_octet_signs), ("unicode/utf8.first", laid_unicode_utf8_first)], narrowed := true }
def FieldTurnsUptoSaid : Prop := fieldTurnsUptoRow.holds Tryd.pinned (OpenSpec.upto fieldTurnsSpec)

/-- 'turnpikelaw06.FieldTexts', WHERE WHAT IT READS IS OF BULK AT MOST 1048576: true; the input reads as it did. -/
def fieldTextsUptoRow : OpenClaim := { program := "ytamagbdkcfmfmaadoor", sum := "0e5f0207692d8aa3ffb1ee6373ca9141669494f536bde84badf9cdb792289615", func := "turnpike/turnpikelaw06.FieldTexts", spec := "fieldTexts", inPlace := ["internal/bytealg.IndexByteString", "internal/bytealg.IndexString"], named := ["turnpike/octet.signs", "unicode/utf8.first", "unicode/utf8.acceptRanges", "internal/bytealg.MaxLen"], apart := false, laid := [("unicode/utf8.acceptRanges", laid_unicode_utf8_acceptRanges), ("turnpike/octet.signs", laid_turnpike_octet_signs), ("unicode/utf8.first", laid_unicode_utf8_first)], narrowed := true }
def FieldTextsUptoSaid : Prop := fieldTextsUptoRow.holds Tryd.pinned (OpenSpec.upto fieldTextsSpec)

/-- 'turnpikelaw06.FieldApart', WHERE WHAT IT READS IS OF BULK AT MOST 1048576: true; the input reads as it did. -/
def fieldApartUptoRow : OpenClaim := { program := "ytamagbdkcfmfmaadoor", sum := "0e5f0207692d8aa3ffb1ee6373ca9141669494f536bde84badf9cdb792289615", func := "turnpike/turnpikelaw06.FieldApart", spec := "fieldApart", inPlace := ["internal/bytealg.IndexByteString", "internal/bytealg.IndexString", "internal/abi.NoEscape"], unfollowed := true, recurses := true, named := ["turnpike/octet.signs", "unicode/utf8.first", "unicode/utf8.acceptRanges", "internal/bytealg.MaxLen"], apart := false, laid := [("unicode/utf8.acceptRanges", laid_unicode_utf8_acceptRanges), ("turnpike/octet.signs", laid_turnpike_octet_signs), ("unicode/utf8.first", laid_unicode_utf8_first)], narrowed := true }
def FieldApartUptoSaid : Prop := fieldApartUptoRow.holds Tryd.pinned (OpenSpec.upto fieldApartSpec)

/-- 'turnpikelaw06.FieldJoins', WHERE WHAT IT READS IS OF BULK AT MOST 1048576: true; the input reads as it did. -/
def fieldJoinsUptoRow : OpenClaim := { program := "ytamagbdkcfmfmaadoor", sum := "0e5f0207692d8aa3ffb1ee6373ca9141669494f536bde84badf9cdb792289615", func := "turnpike/turnpikelaw06.FieldJoins", spec := "fieldJoins", inPlace := ["internal/bytealg.IndexByteString", "internal/bytealg.IndexString", "internal/abi.NoEscape", "internal/bytealg.MakeNoZero"], named := ["turnpike/octet.signs", "unicode/utf8.first", "unicode/utf8.acceptRanges", "internal/bytealg.MaxLen"], apart := false, laid := [("unicode/utf8.acceptRanges", laid_unicode_utf8_acceptRanges), ("turnpike/octet.signs", laid_turnpike_octet_signs), ("unicode/utf8.first", laid_unicode_utf8_first)], narrowed := true }
def FieldJoinsUptoSaid : Prop := fieldJoinsUptoRow.holds Tryd.pinned (OpenSpec.upto fieldJoinsSpec)

/-- 'turnpikelaw06.FieldHops', WHERE WHAT IT READS IS OF BULK AT MOST 1048576: true; the input reads as it did. -/
def fieldHopsUptoRow : OpenClaim := { program := "ytamagbdkcfmfmaadoor", sum := "0e5f0207692d8aa3ffb1ee6373ca9141669494f536bde84badf9cdb792289615", func := "turnpike/turnpikelaw06.FieldHops", spec := "fieldHops", inPlace := ["internal/bytealg.IndexByteString", "internal/bytealg.IndexString", "internal/abi.NoEscape"], unfollowed := true, recurses := true, named := ["turnpike/octet.signs", "unicode/utf8.first", "unicode/utf8.acceptRanges", "internal/bytealg.MaxLen"], apart := false, laid := [("unicode/utf8.acceptRanges", laid_unicode_utf8_acceptRanges), ("turnpike/octet.signs", laid_turnpike_octet_signs), ("unicode/utf8.first", laid_unicode_utf8_first)], narrowed := true }
def FieldHopsUptoSaid : Prop := fieldHopsUptoRow.holds Tryd.pinned (OpenSpec.upto fieldHopsSpec)

/-- 'turnpikelaw06.FieldBack', WHERE WHAT IT READS IS OF BULK AT MOST 1048576: true; the input reads as it did. -/
def fieldBackUptoRow : OpenClaim := { program := "ytamagbdkcfmfmaadoor", sum := "0e5f0207692d8aa3ffb1ee6373ca9141669494f536bde84badf9cdb792289615", func := "turnpike/turnpikelaw06.FieldBack", spec := "fieldBack", inPlace := ["internal/bytealg.IndexByteString", "internal/bytealg.IndexString", "internal/abi.NoEscape"], named := ["turnpike/octet.signs", "unicode/utf8.first", "unicode/utf8.acceptRanges", "internal/bytealg.MaxLen"], apart := false, laid := [("unicode/utf8.acceptRanges", laid_unicode_utf8_acceptRanges), ("turnpike/octet.signs", laid_turnpike_octet_signs), ("unicode/utf8.first", laid_unicode_utf8_first)], narrowed := true }
def FieldBackUptoSaid : Prop := fieldBackUptoRow.holds Tryd.pinned (OpenSpec.upto fieldBackSpec)

/-- 'turnpikelaw06.FieldLooks', WHERE WHAT IT READS IS OF BULK AT MOST 1048576: true; the input reads as it did. -/
def fieldLooksUptoRow : OpenClaim := { program := "ytamagbdkcfmfmaadoor", sum := "0e5f0207692d8aa3ffb1ee6373ca9141669494f536bde84badf9cdb792289615", func := "turnpike/turnpikelaw06.FieldLooks", spec := "fieldLooks", inPlace := ["internal/bytealg.IndexByteString", "internal/bytealg.IndexString", "internal/abi.NoEscape", "internal/bytealg.MakeNoZero"], named := ["turnpike/octet.signs", "unicode/utf8.first", "unicode/utf8.acceptRanges", "internal/bytealg.MaxLen"], apart := false, laid := [("unicode/utf8.acceptRanges", laid_unicode_utf8_acceptRanges), ("turnpike/octet.signs", laid_turnpike_octet_signs), ("unicode/utf8.first", laid_unicode_utf8_first)], narrowed := true }
def FieldLooksUptoSaid : Prop := fieldLooksUptoRow.holds Tryd.pinned (OpenSpec.upto fieldLooksSpec)

/-- 'turnpikelaw06.FieldLengths', WHERE WHAT IT READS IS OF BULK AT MOST 1048576: true; the input reads as it did. -/
def fieldLengthsUptoRow : OpenClaim := { program := "ytamagbdkcfmfmaadoor", sum := "0e5f0207692d8aa3ffb1ee6373ca9141669494f536bde84badf9cdb792289615", func := "turnpike/turnpikelaw06.FieldLengths", spec := "fieldLengths", inPlace := ["internal/bytealg.IndexByteString", "internal/bytealg.IndexString", "internal/abi.NoEscape"], named := ["turnpike/octet.signs", "unicode/utf8.first", "unicode/utf8.acceptRanges", "internal/bytealg.MaxLen"], apart := false, laid := [("unicode/utf8.acceptRanges", laid_unicode_utf8_acceptRanges), ("turnpike/octet.signs", laid_turnpike_octet_signs), ("unicode/utf8.first", laid_unicode_utf8_first)], narrowed := true }
def FieldLengthsUptoSaid : Prop := fieldLengthsUptoRow.holds Tryd.pinned (OpenSpec.upto fieldLengthsSpec)

/-- 'turnpikelaw06.FieldOne', WHERE WHAT IT READS IS OF BULK AT MOST 1048576: true; the input reads as it did. -/
def fieldOneUptoRow : OpenClaim := { program := "ytamagbdkcfmfmaadoor", sum := "0e5f0207692d8aa3ffb1ee6373ca9141669494f536bde84badf9cdb792289615", func := "turnpike/turnpikelaw06.FieldOne", spec := "fieldOne", inPlace := ["internal/bytealg.IndexByteString", "internal/bytealg.IndexString", "internal/abi.NoEscape"], named := ["turnpike/octet.signs", "unicode/utf8.first", "unicode/utf8.acceptRanges", "internal/bytealg.MaxLen"], apart := false, laid := [("unicode/utf8.acceptRanges", laid_unicode_utf8_acceptRanges), ("turnpike/octet.signs", laid_turnpike_octet_signs), ("unicode/utf8.first", laid_unicode_utf8_first)], narrowed := true }
def FieldOneUptoSaid : Prop := fieldOneUptoRow.holds Tryd.pinned (OpenSpec.upto fieldOneSpec)

/-- 'turnpikelaw06.FieldCase', WHERE WHAT IT READS IS OF BULK AT MOST 1048576: true; the input reads as it did. -/
def fieldCaseUptoRow : OpenClaim := { program := "ytamagbdkcfmfmaadoor", sum := "0e5f0207692d8aa3ffb1ee6373ca9141669494f536bde84badf9cdb792289615", func := "turnpike/turnpikelaw06.FieldCase", spec := "fieldCase", inPlace := ["internal/bytealg.IndexByteString", "internal/bytealg.IndexString", "internal/abi.NoEscape"], unfollowed := true, recurses := true, named := ["turnpike/octet.signs", "unicode/utf8.first", "unicode/utf8.acceptRanges", "internal/bytealg.MaxLen"], apart := false, laid := [("unicode/utf8.acceptRanges", laid_unicode_utf8_acceptRanges), ("turnpike/octet.signs", laid_turnpike_octet_signs), ("unicode/utf8.first", laid_unicode_utf8_first)], narrowed := true }
def FieldCaseUptoSaid : Prop := fieldCaseUptoRow.holds Tryd.pinned (OpenSpec.upto fieldCaseSpec)

/-- 'turnpikelaw06.FieldMemory', WHERE WHAT IT READS IS OF BULK AT MOST 1048576: true; the input reads as it did. -/
def fieldMemoryUptoRow : OpenClaim := { program := "ytamagbdkcfmfmaadoor", sum := "0e5f0207692d8aa3ffb1ee6373ca9141669494f536bde84badf9cdb792289615", func := "turnpike/turnpikelaw06.FieldMemory", spec := "fieldMemory", inPlace := ["internal/bytealg.IndexByteString", "internal/bytealg.IndexString", "internal/abi.NoEscape"], unfollowed := true, recurses := true, named := ["turnpike/octet.signs", "unicode/utf8.first", "unicode/utf8.acceptRanges", "internal/bytealg.MaxLen"], apart := false, laid := [("unicode/utf8.acceptRanges", laid_unicode_utf8_acceptRanges), ("turnpike/octet.signs", laid_turnpike_octet_signs), ("unicode/utf8.first", laid_unicode_utf8_first)], narrowed := true }
def FieldMemoryUptoSaid : Prop := fieldMemoryUptoRow.holds Tryd.pinned (OpenSpec.upto fieldMemorySpec)

end Rows
end Go.Proofs.YtamagbdkcfmfmaaDoor
