/-
  DERIVED. GIVEN WITH THE SEED: THE CARDS: each row of YtjlnbjlhlglneaaDoorRows.lean that lists a variable, with what it lists TIED to the program's text (the seventh form; the later family's looks); each row that meets fmt, with fmt's text TOLD by the authors' own Lean function (tested against real Go, not proved from fmt's source: count such statements apart). THE CARD IS WHAT COUNTS. Prove the row's statement (the work); the ties are given (YtjlnbjlhlglneaaDoorTie.lean); close each card by the builder's one call (the guide's Derived/Test/ToyasCard.lean, 'card_holds'). Laid BY PROGRAM, IN A SANDBOX (cutbox-door.mjs). By AI agents, Wed Nov 11 2026. No macro, syntax, notation, axiom, sorry.
-/
import Derived.Test.YtjlnbjlhlglneaaDoorRows
import GoSem.ClaimSeven
namespace Go.Proofs.YtjlnbjlhlglneaaDoor
namespace Rows

/-- THE TIED CARD OF 'turnpikelaw05.TargetParses'. -/
def targetParsesCard : Claim7 := { stood := { row := targetParsesRow, standIns := [], harness := (true, "e0c97eab115e849e77c6a16f0555bf155638d03866bee5380876125b34f62b9d"), looks := false }, kinds := [], alts := [], laidByText := true, laidKinds := [.data, .data, .data, .data, .pinned], laidTests := true, laidLooks := .later }
def TargetParsesCardSaid : Prop := Claim7.holds Tryd.pinned (.plain (OpenSpec.ofChange targetParsesSpec)) targetParsesCard

/-- THE TIED CARD OF 'turnpikelaw05.TargetHosts'. -/
def targetHostsCard : Claim7 := { stood := { row := targetHostsRow, standIns := [], harness := (true, "e0c97eab115e849e77c6a16f0555bf155638d03866bee5380876125b34f62b9d"), looks := false }, kinds := [], alts := [], laidByText := true, laidKinds := [.data, .data, .data, .data, .pinned], laidTests := true, laidLooks := .later }
def TargetHostsCardSaid : Prop := Claim7.holds Tryd.pinned (.plain (OpenSpec.ofChange targetHostsSpec)) targetHostsCard

/-- THE TIED CARD OF 'turnpikelaw05.TargetCodes'. -/
def targetCodesCard : Claim7 := { stood := { row := targetCodesRow, standIns := [], harness := (true, "e0c97eab115e849e77c6a16f0555bf155638d03866bee5380876125b34f62b9d"), looks := false }, kinds := [], alts := [], laidByText := true, laidKinds := [.data, .data, .data, .data, .pinned], laidTests := true, laidLooks := .later }
def TargetCodesCardSaid : Prop := Claim7.holds Tryd.pinned (.plain (OpenSpec.ofChange targetCodesSpec)) targetCodesCard

/-- THE TIED CARD OF 'turnpikelaw05.TargetDecodes'. -/
def targetDecodesCard : Claim7 := { stood := { row := targetDecodesRow, standIns := [], harness := (true, "e0c97eab115e849e77c6a16f0555bf155638d03866bee5380876125b34f62b9d"), looks := false }, kinds := [], alts := [], laidByText := true, laidKinds := [.data, .data, .data, .data, .pinned], laidTests := true, laidLooks := .later }
def TargetDecodesCardSaid : Prop := Claim7.holds Tryd.pinned (.plain (OpenSpec.ofChange targetDecodesSpec)) targetDecodesCard

/-- THE TIED CARD OF 'turnpikelaw05.TargetBack'. -/
def targetBackCard : Claim7 := { stood := { row := targetBackRow, standIns := [], harness := (true, "e0c97eab115e849e77c6a16f0555bf155638d03866bee5380876125b34f62b9d"), looks := false }, kinds := [], alts := [], laidByText := true, laidKinds := [.data, .data, .data, .data, .pinned], laidTests := true, laidLooks := .later }
def TargetBackCardSaid : Prop := Claim7.holds Tryd.pinned (.plain (OpenSpec.ofChange targetBackSpec)) targetBackCard

/-- THE TIED CARD OF 'turnpikelaw05.TargetPaths'. -/
def targetPathsCard : Claim7 := { stood := { row := targetPathsRow, standIns := [], harness := (true, "e0c97eab115e849e77c6a16f0555bf155638d03866bee5380876125b34f62b9d"), looks := false }, kinds := [], alts := [], laidByText := true, laidKinds := [.data, .data, .data, .data, .pinned], laidTests := true, laidLooks := .later }
def TargetPathsCardSaid : Prop := Claim7.holds Tryd.pinned (.plain (OpenSpec.ofChange targetPathsSpec)) targetPathsCard

/-- THE TIED CARD OF 'turnpikelaw05.TargetPairs'. -/
def targetPairsCard : Claim7 := { stood := { row := targetPairsRow, standIns := [], harness := (true, "e0c97eab115e849e77c6a16f0555bf155638d03866bee5380876125b34f62b9d"), looks := false }, kinds := [], alts := [], laidByText := true, laidKinds := [.data, .data, .data, .data, .pinned], laidTests := true, laidLooks := .later }
def TargetPairsCardSaid : Prop := Claim7.holds Tryd.pinned (.plain (OpenSpec.ofChange targetPairsSpec)) targetPairsCard

/-- THE SECOND FORM's CARD OF 'turnpikelaw05.TargetParses'. -/
def targetParsesUptoCard : Claim7 := { stood := { row := targetParsesUptoRow, standIns := [], harness := (true, "e0c97eab115e849e77c6a16f0555bf155638d03866bee5380876125b34f62b9d"), looks := false }, kinds := [], alts := [], laidByText := true, laidKinds := [.data, .data, .data, .data, .pinned], laidTests := true, laidLooks := .later }
def TargetParsesUptoCardSaid : Prop := Claim7.holds Tryd.pinned (.plain (OpenSpec.upto targetParsesSpec)) targetParsesUptoCard

/-- THE SECOND FORM's CARD OF 'turnpikelaw05.TargetHosts'. -/
def targetHostsUptoCard : Claim7 := { stood := { row := targetHostsUptoRow, standIns := [], harness := (true, "e0c97eab115e849e77c6a16f0555bf155638d03866bee5380876125b34f62b9d"), looks := false }, kinds := [], alts := [], laidByText := true, laidKinds := [.data, .data, .data, .data, .pinned], laidTests := true, laidLooks := .later }
def TargetHostsUptoCardSaid : Prop := Claim7.holds Tryd.pinned (.plain (OpenSpec.upto targetHostsSpec)) targetHostsUptoCard

/-- THE SECOND FORM's CARD OF 'turnpikelaw05.TargetCodes'. -/
def targetCodesUptoCard : Claim7 := { stood := { row := targetCodesUptoRow, standIns := [], harness := (true, "e0c97eab115e849e77c6a16f0555bf155638d03866bee5380876125b34f62b9d"), looks := false }, kinds := [], alts := [], laidByText := true, laidKinds := [.data, .data, .data, .data, .pinned], laidTests := true, laidLooks := .later }
def TargetCodesUptoCardSaid : Prop := Claim7.holds Tryd.pinned (.plain (OpenSpec.upto targetCodesSpec)) targetCodesUptoCard

/-- THE SECOND FORM's CARD OF 'turnpikelaw05.TargetDecodes'. -/
def targetDecodesUptoCard : Claim7 := { stood := { row := targetDecodesUptoRow, standIns := [], harness := (true, "e0c97eab115e849e77c6a16f0555bf155638d03866bee5380876125b34f62b9d"), looks := false }, kinds := [], alts := [], laidByText := true, laidKinds := [.data, .data, .data, .data, .pinned], laidTests := true, laidLooks := .later }
def TargetDecodesUptoCardSaid : Prop := Claim7.holds Tryd.pinned (.plain (OpenSpec.upto targetDecodesSpec)) targetDecodesUptoCard

/-- THE SECOND FORM's CARD OF 'turnpikelaw05.TargetBack'. -/
def targetBackUptoCard : Claim7 := { stood := { row := targetBackUptoRow, standIns := [], harness := (true, "e0c97eab115e849e77c6a16f0555bf155638d03866bee5380876125b34f62b9d"), looks := false }, kinds := [], alts := [], laidByText := true, laidKinds := [.data, .data, .data, .data, .pinned], laidTests := true, laidLooks := .later }
def TargetBackUptoCardSaid : Prop := Claim7.holds Tryd.pinned (.plain (OpenSpec.upto targetBackSpec)) targetBackUptoCard

/-- THE SECOND FORM's CARD OF 'turnpikelaw05.TargetPaths'. -/
def targetPathsUptoCard : Claim7 := { stood := { row := targetPathsUptoRow, standIns := [], harness := (true, "e0c97eab115e849e77c6a16f0555bf155638d03866bee5380876125b34f62b9d"), looks := false }, kinds := [], alts := [], laidByText := true, laidKinds := [.data, .data, .data, .data, .pinned], laidTests := true, laidLooks := .later }
def TargetPathsUptoCardSaid : Prop := Claim7.holds Tryd.pinned (.plain (OpenSpec.upto targetPathsSpec)) targetPathsUptoCard

/-- THE SECOND FORM's CARD OF 'turnpikelaw05.TargetPairs'. -/
def targetPairsUptoCard : Claim7 := { stood := { row := targetPairsUptoRow, standIns := [], harness := (true, "e0c97eab115e849e77c6a16f0555bf155638d03866bee5380876125b34f62b9d"), looks := false }, kinds := [], alts := [], laidByText := true, laidKinds := [.data, .data, .data, .data, .pinned], laidTests := true, laidLooks := .later }
def TargetPairsUptoCardSaid : Prop := Claim7.holds Tryd.pinned (.plain (OpenSpec.upto targetPairsSpec)) targetPairsUptoCard
end Rows
end Go.Proofs.YtjlnbjlhlglneaaDoor
