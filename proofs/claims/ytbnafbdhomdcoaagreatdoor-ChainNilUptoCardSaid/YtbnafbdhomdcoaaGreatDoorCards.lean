/-
  DERIVED. GIVEN WITH THE SEED: THE CARDS: each row of YtbnafbdhomdcoaaGreatDoorRows.lean that lists a variable, with what it lists TIED to the program's text (the seventh form; the later family's looks); each row that meets fmt, with fmt's text TOLD by the authors' own Lean function (tested against real Go, not proved from fmt's source: count such statements apart). THE CARD IS WHAT COUNTS. Prove the row's statement (the work); the ties are given (YtbnafbdhomdcoaaGreatDoorTie.lean); close each card by the builder's one call (the guide's Derived/Test/ToyasCard.lean, 'card_holds'). Laid BY PROGRAM, IN A SANDBOX (cutbox-door.mjs). By AI agents, Wed Nov 11 2026. No macro, syntax, notation, axiom, sorry.
-/
import Derived.Test.YtbnafbdhomdcoaaGreatDoorRows
import GoSem.ClaimSeven
namespace Go.Proofs.YtbnafbdhomdcoaaGreatDoor
namespace Rows

/-- THE TIED CARD OF 'turnpikelaw19.ChainOne'. -/
def chainOneCard : Claim7 := { stood := { row := chainOneRow, standIns := [], harness := (true, "c9377c68238720ba66e712e6e0f7abf294db3854f63350f02a514db2dd80318f"), looks := false }, kinds := [], alts := [], laidByText := true, laidKinds := [.data, .data, .data, .data, .data, .pinned], laidTests := true, laidLooks := .later }
def ChainOneCardSaid : Prop := Claim7.holds Tryz.pinned (.plain (OpenSpec.ofChange chainOneSpec)) chainOneCard

/-- THE TIED CARD OF 'turnpikelaw19.ChainNil'. -/
def chainNilCard : Claim7 := { stood := { row := chainNilRow, standIns := [], harness := (true, "c9377c68238720ba66e712e6e0f7abf294db3854f63350f02a514db2dd80318f"), looks := false }, kinds := [], alts := [], laidByText := true, laidKinds := [.data, .data, .data, .data, .data, .pinned], laidTests := true, laidLooks := .later }
def ChainNilCardSaid : Prop := Claim7.holds Tryz.pinned (.plain (OpenSpec.ofChange chainNilSpec)) chainNilCard

/-- THE TIED CARD OF 'turnpikelaw19.ChainJoins'. -/
def chainJoinsCard : Claim7 := { stood := { row := chainJoinsRow, standIns := [], harness := (true, "c9377c68238720ba66e712e6e0f7abf294db3854f63350f02a514db2dd80318f"), looks := false }, kinds := [], alts := [], laidByText := true, laidKinds := [.data, .data, .data, .data, .data, .pinned], laidTests := true, laidLooks := .later }
def ChainJoinsCardSaid : Prop := Claim7.holds Tryz.pinned (.plain (OpenSpec.ofChange chainJoinsSpec)) chainJoinsCard

/-- THE TIED CARD OF 'turnpikelaw19.ChainLets'. -/
def chainLetsCard : Claim7 := { stood := { row := chainLetsRow, standIns := [], harness := (true, "c9377c68238720ba66e712e6e0f7abf294db3854f63350f02a514db2dd80318f"), looks := false }, kinds := [], alts := [], laidByText := true, laidKinds := [.data, .data, .data, .data, .data, .pinned], laidTests := true, laidLooks := .later }
def ChainLetsCardSaid : Prop := Claim7.holds Tryz.pinned (.plain (OpenSpec.ofChange chainLetsSpec)) chainLetsCard

/-- THE TIED CARD OF 'turnpikelaw19.ChainMemory'. -/
def chainMemoryCard : Claim7 := { stood := { row := chainMemoryRow, standIns := [], harness := (true, "c9377c68238720ba66e712e6e0f7abf294db3854f63350f02a514db2dd80318f"), looks := false }, kinds := [], alts := [], laidByText := true, laidKinds := [.data, .data, .data, .data, .data, .pinned], laidTests := true, laidLooks := .later }
def ChainMemoryCardSaid : Prop := Claim7.holds Tryz.pinned (.plain (OpenSpec.ofChange chainMemorySpec)) chainMemoryCard

/-- THE SECOND FORM's CARD OF 'turnpikelaw19.ChainOne'. -/
def chainOneUptoCard : Claim7 := { stood := { row := chainOneUptoRow, standIns := [], harness := (true, "c9377c68238720ba66e712e6e0f7abf294db3854f63350f02a514db2dd80318f"), looks := false }, kinds := [], alts := [], laidByText := true, laidKinds := [.data, .data, .data, .data, .data, .pinned], laidTests := true, laidLooks := .later }
def ChainOneUptoCardSaid : Prop := Claim7.holds Tryz.pinned (.plain (OpenSpec.upto chainOneSpec)) chainOneUptoCard

/-- THE SECOND FORM's CARD OF 'turnpikelaw19.ChainNil'. -/
def chainNilUptoCard : Claim7 := { stood := { row := chainNilUptoRow, standIns := [], harness := (true, "c9377c68238720ba66e712e6e0f7abf294db3854f63350f02a514db2dd80318f"), looks := false }, kinds := [], alts := [], laidByText := true, laidKinds := [.data, .data, .data, .data, .data, .pinned], laidTests := true, laidLooks := .later }
def ChainNilUptoCardSaid : Prop := Claim7.holds Tryz.pinned (.plain (OpenSpec.upto chainNilSpec)) chainNilUptoCard

/-- THE SECOND FORM's CARD OF 'turnpikelaw19.ChainJoins'. -/
def chainJoinsUptoCard : Claim7 := { stood := { row := chainJoinsUptoRow, standIns := [], harness := (true, "c9377c68238720ba66e712e6e0f7abf294db3854f63350f02a514db2dd80318f"), looks := false }, kinds := [], alts := [], laidByText := true, laidKinds := [.data, .data, .data, .data, .data, .pinned], laidTests := true, laidLooks := .later }
def ChainJoinsUptoCardSaid : Prop := Claim7.holds Tryz.pinned (.plain (OpenSpec.upto chainJoinsSpec)) chainJoinsUptoCard

/-- THE SECOND FORM's CARD OF 'turnpikelaw19.ChainLets'. -/
def chainLetsUptoCard : Claim7 := { stood := { row := chainLetsUptoRow, standIns := [], harness := (true, "c9377c68238720ba66e712e6e0f7abf294db3854f63350f02a514db2dd80318f"), looks := false }, kinds := [], alts := [], laidByText := true, laidKinds := [.data, .data, .data, .data, .data, .pinned], laidTests := true, laidLooks := .later }
def ChainLetsUptoCardSaid : Prop := Claim7.holds Tryz.pinned (.plain (OpenSpec.upto chainLetsSpec)) chainLetsUptoCard

/-- THE SECOND FORM's CARD OF 'turnpikelaw19.ChainMemory'. -/
def chainMemoryUptoCard : Claim7 := { stood := { row := chainMemoryUptoRow, standIns := [], harness := (true, "c9377c68238720ba66e712e6e0f7abf294db3854f63350f02a514db2dd80318f"), looks := false }, kinds := [], alts := [], laidByText := true, laidKinds := [.data, .data, .data, .data, .data, .pinned], laidTests := true, laidLooks := .later }
def ChainMemoryUptoCardSaid : Prop := Claim7.holds Tryz.pinned (.plain (OpenSpec.upto chainMemorySpec)) chainMemoryUptoCard
end Rows
end Go.Proofs.YtbnafbdhomdcoaaGreatDoor
