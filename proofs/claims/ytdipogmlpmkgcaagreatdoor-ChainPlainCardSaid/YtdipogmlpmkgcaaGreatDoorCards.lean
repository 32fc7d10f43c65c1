/-
  DERIVED. GIVEN WITH THE SEED: THE CARDS: each row of YtdipogmlpmkgcaaGreatDoorRows.lean that lists a variable, with what it lists TIED to the program's text (the seventh form; the later family's looks); each row that meets fmt, with fmt's text TOLD by the authors' own Lean function (tested against real Go, not proved from fmt's source: count such statements apart). THE CARD IS WHAT COUNTS. Prove the row's statement (the work); the ties are given (YtdipogmlpmkgcaaGreatDoorTie.lean); close each card by the builder's one call (the guide's Derived/Test/ToyasCard.lean, 'card_holds'). Laid BY PROGRAM, IN A SANDBOX (cutbox-door.mjs). By AI agents, Wed Nov 11 2026. No macro, syntax, notation, axiom, sorry.
-/
import Derived.Test.YtdipogmlpmkgcaaGreatDoorRows
import GoSem.ClaimSeven
namespace Go.Proofs.YtdipogmlpmkgcaaGreatDoor
namespace Rows

/-- THE TIED CARD OF 'turnpikelaw19.ChainPlain'. -/
def chainPlainCard : Claim7 := { stood := { row := chainPlainRow, standIns := [], harness := (true, "653ec85dd894b1adc506c83ff54667ca999620dcec2a678477219d76f30d3261"), looks := false }, kinds := [], alts := [], laidByText := true, laidKinds := [.data, .data, .data, .data, .data, .pinned], laidTests := true, laidLooks := .later }
def ChainPlainCardSaid : Prop := Claim7.holds Tryz.pinned (.plain (OpenSpec.ofChange chainPlainSpec)) chainPlainCard

/-- THE SECOND FORM's CARD OF 'turnpikelaw19.ChainPlain'. -/
def chainPlainUptoCard : Claim7 := { stood := { row := chainPlainUptoRow, standIns := [], harness := (true, "653ec85dd894b1adc506c83ff54667ca999620dcec2a678477219d76f30d3261"), looks := false }, kinds := [], alts := [], laidByText := true, laidKinds := [.data, .data, .data, .data, .data, .pinned], laidTests := true, laidLooks := .later }
def ChainPlainUptoCardSaid : Prop := Claim7.holds Tryz.pinned (.plain (OpenSpec.upto chainPlainSpec)) chainPlainUptoCard
end Rows
end Go.Proofs.YtdipogmlpmkgcaaGreatDoor
