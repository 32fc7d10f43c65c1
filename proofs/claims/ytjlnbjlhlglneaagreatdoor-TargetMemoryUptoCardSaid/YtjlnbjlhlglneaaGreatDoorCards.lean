/-
  DERIVED. GIVEN WITH THE SEED: THE CARDS: each row of YtjlnbjlhlglneaaGreatDoorRows.lean that lists a variable, with what it lists TIED to the program's text (the seventh form; the later family's looks); each row that meets fmt, with fmt's text TOLD by the authors' own Lean function (tested against real Go, not proved from fmt's source: count such statements apart). THE CARD IS WHAT COUNTS. Prove the row's statement (the work); the ties are given (YtjlnbjlhlglneaaGreatDoorTie.lean); close each card by the builder's one call (the guide's Derived/Test/ToyasCard.lean, 'card_holds'). Laid BY PROGRAM, IN A SANDBOX (cutbox-door.mjs). By AI agents, Wed Nov 11 2026. No macro, syntax, notation, axiom, sorry.
-/
import Derived.Test.YtjlnbjlhlglneaaGreatDoorRows
import GoSem.ClaimSeven
namespace Go.Proofs.YtjlnbjlhlglneaaGreatDoor
namespace Rows

/-- THE TIED CARD OF 'turnpikelaw05.TargetPrints'. -/
def targetPrintsCard : Claim7 := { stood := { row := targetPrintsRow, standIns := [], harness := (true, "d4f37d9b5f55dcf1dc28f2b407cfad6887e82f5112380c01db7782746279fbae"), looks := false }, kinds := [], alts := [], laidByText := true, laidKinds := [.data, .data, .data, .data, .pinned], laidTests := true, laidLooks := .later }
def TargetPrintsCardSaid : Prop := Claim7.holds Tryz.pinned (.plain (OpenSpec.ofChange targetPrintsSpec)) targetPrintsCard

/-- THE TIED CARD OF 'turnpikelaw05.TargetQueries'. -/
def targetQueriesCard : Claim7 := { stood := { row := targetQueriesRow, standIns := [], harness := (true, "d4f37d9b5f55dcf1dc28f2b407cfad6887e82f5112380c01db7782746279fbae"), looks := false }, kinds := [], alts := [], laidByText := true, laidKinds := [.data, .data, .data, .data, .pinned], laidTests := true, laidLooks := .later }
def TargetQueriesCardSaid : Prop := Claim7.holds Tryz.pinned (.plain (OpenSpec.ofChange targetQueriesSpec)) targetQueriesCard

/-- THE TIED CARD OF 'turnpikelaw05.TargetMemory'. -/
def targetMemoryCard : Claim7 := { stood := { row := targetMemoryRow, standIns := [], harness := (true, "d4f37d9b5f55dcf1dc28f2b407cfad6887e82f5112380c01db7782746279fbae"), looks := false }, kinds := [], alts := [], laidByText := true, laidKinds := [.data, .data, .data, .data, .pinned], laidTests := true, laidLooks := .later }
def TargetMemoryCardSaid : Prop := Claim7.holds Tryz.pinned (.plain (OpenSpec.ofChange targetMemorySpec)) targetMemoryCard

/-- THE TIED CARD OF 'turnpikelaw05.TargetResolves'. -/
def targetResolvesCard : Claim7 := { stood := { row := targetResolvesRow, standIns := [], harness := (true, "d4f37d9b5f55dcf1dc28f2b407cfad6887e82f5112380c01db7782746279fbae"), looks := false }, kinds := [], alts := [], laidByText := true, laidKinds := [.data, .data, .data, .data, .pinned], laidTests := true, laidLooks := .later }
def TargetResolvesCardSaid : Prop := Claim7.holds Tryz.pinned (.plain (OpenSpec.ofChange targetResolvesSpec)) targetResolvesCard

/-- THE TIED CARD OF 'turnpikelaw05.TargetSteps'. -/
def targetStepsCard : Claim7 := { stood := { row := targetStepsRow, standIns := [], harness := (true, "d4f37d9b5f55dcf1dc28f2b407cfad6887e82f5112380c01db7782746279fbae"), looks := false }, kinds := [], alts := [], laidByText := true, laidKinds := [.data, .data, .data, .data, .pinned], laidTests := true, laidLooks := .later }
def TargetStepsCardSaid : Prop := Claim7.holds Tryz.pinned (.plain (OpenSpec.ofChange targetStepsSpec)) targetStepsCard

/-- THE TIED CARD OF 'turnpikelaw05.TargetNormal'. -/
def targetNormalCard : Claim7 := { stood := { row := targetNormalRow, standIns := [], harness := (true, "d4f37d9b5f55dcf1dc28f2b407cfad6887e82f5112380c01db7782746279fbae"), looks := false }, kinds := [], alts := [], laidByText := true, laidKinds := [.data, .data, .data, .data, .pinned], laidTests := true, laidLooks := .later }
def TargetNormalCardSaid : Prop := Claim7.holds Tryz.pinned (.plain (OpenSpec.ofChange targetNormalSpec)) targetNormalCard

/-- THE TIED CARD OF 'turnpikelaw05.TargetDots'. -/
def targetDotsCard : Claim7 := { stood := { row := targetDotsRow, standIns := [], harness := (true, "d4f37d9b5f55dcf1dc28f2b407cfad6887e82f5112380c01db7782746279fbae"), looks := false }, kinds := [], alts := [], laidByText := true, laidKinds := [.data, .data, .data, .data, .pinned], laidTests := true, laidLooks := .later }
def TargetDotsCardSaid : Prop := Claim7.holds Tryz.pinned (.plain (OpenSpec.ofChange targetDotsSpec)) targetDotsCard

/-- THE SECOND FORM's CARD OF 'turnpikelaw05.TargetPrints'. -/
def targetPrintsUptoCard : Claim7 := { stood := { row := targetPrintsUptoRow, standIns := [], harness := (true, "d4f37d9b5f55dcf1dc28f2b407cfad6887e82f5112380c01db7782746279fbae"), looks := false }, kinds := [], alts := [], laidByText := true, laidKinds := [.data, .data, .data, .data, .pinned], laidTests := true, laidLooks := .later }
def TargetPrintsUptoCardSaid : Prop := Claim7.holds Tryz.pinned (.plain (OpenSpec.upto targetPrintsSpec)) targetPrintsUptoCard

/-- THE SECOND FORM's CARD OF 'turnpikelaw05.TargetQueries'. -/
def targetQueriesUptoCard : Claim7 := { stood := { row := targetQueriesUptoRow, standIns := [], harness := (true, "d4f37d9b5f55dcf1dc28f2b407cfad6887e82f5112380c01db7782746279fbae"), looks := false }, kinds := [], alts := [], laidByText := true, laidKinds := [.data, .data, .data, .data, .pinned], laidTests := true, laidLooks := .later }
def TargetQueriesUptoCardSaid : Prop := Claim7.holds Tryz.pinned (.plain (OpenSpec.upto targetQueriesSpec)) targetQueriesUptoCard

/-- THE SECOND FORM's CARD OF 'turnpikelaw05.TargetMemory'. -/
def targetMemoryUptoCard : Claim7 := { stood := { row := targetMemoryUptoRow, standIns := [], harness := (true, "d4f37d9b5f55dcf1dc28f2b407cfad6887e82f5112380c01db7782746279fbae"), looks := false }, kinds := [], alts := [], laidByText := true, laidKinds := [.data, .data, .data, .data, .pinned], laidTests := true, laidLooks := .later }
def TargetMemoryUptoCardSaid : Prop := Claim7.holds Tryz.pinned (.plain (OpenSpec.upto targetMemorySpec)) targetMemoryUptoCard

/-- THE SECOND FORM's CARD OF 'turnpikelaw05.TargetResolves'. -/
def targetResolvesUptoCard : Claim7 := { stood := { row := targetResolvesUptoRow, standIns := [], harness := (true, "d4f37d9b5f55dcf1dc28f2b407cfad6887e82f5112380c01db7782746279fbae"), looks := false }, kinds := [], alts := [], laidByText := true, laidKinds := [.data, .data, .data, .data, .pinned], laidTests := true, laidLooks := .later }
def TargetResolvesUptoCardSaid : Prop := Claim7.holds Tryz.pinned (.plain (OpenSpec.upto targetResolvesSpec)) targetResolvesUptoCard

/-- THE SECOND FORM's CARD OF 'turnpikelaw05.TargetSteps'. -/
def targetStepsUptoCard : Claim7 := { stood := { row := targetStepsUptoRow, standIns := [], harness := (true, "d4f37d9b5f55dcf1dc28f2b407cfad6887e82f5112380c01db7782746279fbae"), looks := false }, kinds := [], alts := [], laidByText := true, laidKinds := [.data, .data, .data, .data, .pinned], laidTests := true, laidLooks := .later }
def TargetStepsUptoCardSaid : Prop := Claim7.holds Tryz.pinned (.plain (OpenSpec.upto targetStepsSpec)) targetStepsUptoCard

/-- THE SECOND FORM's CARD OF 'turnpikelaw05.TargetNormal'. -/
def targetNormalUptoCard : Claim7 := { stood := { row := targetNormalUptoRow, standIns := [], harness := (true, "d4f37d9b5f55dcf1dc28f2b407cfad6887e82f5112380c01db7782746279fbae"), looks := false }, kinds := [], alts := [], laidByText := true, laidKinds := [.data, .data, .data, .data, .pinned], laidTests := true, laidLooks := .later }
def TargetNormalUptoCardSaid : Prop := Claim7.holds Tryz.pinned (.plain (OpenSpec.upto targetNormalSpec)) targetNormalUptoCard

/-- THE SECOND FORM's CARD OF 'turnpikelaw05.TargetDots'. -/
def targetDotsUptoCard : Claim7 := { stood := { row := targetDotsUptoRow, standIns := [], harness := (true, "d4f37d9b5f55dcf1dc28f2b407cfad6887e82f5112380c01db7782746279fbae"), looks := false }, kinds := [], alts := [], laidByText := true, laidKinds := [.data, .data, .data, .data, .pinned], laidTests := true, laidLooks := .later }
def TargetDotsUptoCardSaid : Prop := Claim7.holds Tryz.pinned (.plain (OpenSpec.upto targetDotsSpec)) targetDotsUptoCard
end Rows
end Go.Proofs.YtjlnbjlhlglneaaGreatDoor
