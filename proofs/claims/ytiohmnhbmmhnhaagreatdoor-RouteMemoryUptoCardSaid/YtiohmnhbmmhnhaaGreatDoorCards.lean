/-
  DERIVED. GIVEN WITH THE SEED: THE CARDS: each row of YtiohmnhbmmhnhaaGreatDoorRows.lean that lists a variable, with what it lists TIED to the program's text (the seventh form; the later family's looks); each row that meets fmt, with fmt's text TOLD by the authors' own Lean function (tested against real Go, not proved from fmt's source: count such statements apart). THE CARD IS WHAT COUNTS. Prove the row's statement (the work); the ties are given (YtiohmnhbmmhnhaaGreatDoorTie.lean); close each card by the builder's one call (the guide's Derived/Test/ToyasCard.lean, 'card_holds'). Laid BY PROGRAM, IN A SANDBOX (cutbox-door.mjs). By AI agents, Wed Nov 11 2026. No macro, syntax, notation, axiom, sorry.
-/
import Derived.Test.YtiohmnhbmmhnhaaGreatDoorRows
import GoSem.ClaimSeven
namespace Go.Proofs.YtiohmnhbmmhnhaaGreatDoor
namespace Rows

/-- THE TIED CARD OF 'turnpikelaw14.RouteNews'. -/
def routeNewsCard : Claim7 := { stood := { row := routeNewsRow, standIns := [], harness := (true, "53822979b894400b783af9e43943d65eb6e6cba4c5136a1fa8643ad0aa0609c8"), looks := true }, kinds := [], alts := [], laidByText := true, laidKinds := [.data], laidTests := true, laidLooks := .later }
def RouteNewsCardSaid : Prop := Claim7.holds Tryz.pinned (.plain (OpenSpec.ofChange routeNewsSpec)) routeNewsCard

/-- THE TIED CARD OF 'turnpikelaw14.RouteOrder'. -/
def routeOrderCard : Claim7 := { stood := { row := routeOrderRow, standIns := [], harness := (true, "53822979b894400b783af9e43943d65eb6e6cba4c5136a1fa8643ad0aa0609c8"), looks := true }, kinds := [], alts := [], laidByText := true, laidKinds := [.data], laidTests := true, laidLooks := .later }
def RouteOrderCardSaid : Prop := Claim7.holds Tryz.pinned (.plain (OpenSpec.ofChange routeOrderSpec)) routeOrderCard

/-- THE TIED CARD OF 'turnpikelaw14.RouteFirst'. -/
def routeFirstCard : Claim7 := { stood := { row := routeFirstRow, standIns := [], harness := (true, "53822979b894400b783af9e43943d65eb6e6cba4c5136a1fa8643ad0aa0609c8"), looks := true }, kinds := [], alts := [], laidByText := true, laidKinds := [.data], laidTests := true, laidLooks := .later }
def RouteFirstCardSaid : Prop := Claim7.holds Tryz.pinned (.plain (OpenSpec.ofChange routeFirstSpec)) routeFirstCard

/-- THE TIED CARD OF 'turnpikelaw14.RouteMatches'. -/
def routeMatchesCard : Claim7 := { stood := { row := routeMatchesRow, standIns := [], harness := (true, "53822979b894400b783af9e43943d65eb6e6cba4c5136a1fa8643ad0aa0609c8"), looks := true }, kinds := [], alts := [], laidByText := true, laidKinds := [.data], laidTests := true, laidLooks := .later }
def RouteMatchesCardSaid : Prop := Claim7.holds Tryz.pinned (.plain (OpenSpec.ofChange routeMatchesSpec)) routeMatchesCard

/-- THE TIED CARD OF 'turnpikelaw14.RouteMemory'. -/
def routeMemoryCard : Claim7 := { stood := { row := routeMemoryRow, standIns := [], harness := (true, "53822979b894400b783af9e43943d65eb6e6cba4c5136a1fa8643ad0aa0609c8"), looks := true }, kinds := [], alts := [], laidByText := true, laidKinds := [.data], laidTests := true, laidLooks := .later }
def RouteMemoryCardSaid : Prop := Claim7.holds Tryz.pinned (.plain (OpenSpec.ofChange routeMemorySpec)) routeMemoryCard

/-- THE TIED CARD OF 'turnpikelaw14.RoutePaths'. -/
def routePathsCard : Claim7 := { stood := { row := routePathsRow, standIns := [], harness := (true, "53822979b894400b783af9e43943d65eb6e6cba4c5136a1fa8643ad0aa0609c8"), looks := true }, kinds := [], alts := [], laidByText := true, laidKinds := [.data, .data, .pinned], laidTests := true, laidLooks := .later }
def RoutePathsCardSaid : Prop := Claim7.holds Tryz.pinned (.plain (OpenSpec.ofChange routePathsSpec)) routePathsCard

/-- THE TIED CARD OF 'turnpikelaw14.RouteBack'. -/
def routeBackCard : Claim7 := { stood := { row := routeBackRow, standIns := [], harness := (true, "53822979b894400b783af9e43943d65eb6e6cba4c5136a1fa8643ad0aa0609c8"), looks := true }, kinds := [], alts := [], laidByText := true, laidKinds := [.data, .data, .pinned], laidTests := true, laidLooks := .later }
def RouteBackCardSaid : Prop := Claim7.holds Tryz.pinned (.plain (OpenSpec.ofChange routeBackSpec)) routeBackCard

/-- THE TIED CARD OF 'turnpikelaw14.RouteAll'. -/
def routeAllCard : Claim7 := { stood := { row := routeAllRow, standIns := [], harness := (true, "53822979b894400b783af9e43943d65eb6e6cba4c5136a1fa8643ad0aa0609c8"), looks := true }, kinds := [], alts := [], laidByText := true, laidKinds := [.data, .data, .pinned], laidTests := true, laidLooks := .later }
def RouteAllCardSaid : Prop := Claim7.holds Tryz.pinned (.plain (OpenSpec.ofChange routeAllSpec)) routeAllCard

/-- THE SECOND FORM's CARD OF 'turnpikelaw14.RouteNews'. -/
def routeNewsUptoCard : Claim7 := { stood := { row := routeNewsUptoRow, standIns := [], harness := (true, "53822979b894400b783af9e43943d65eb6e6cba4c5136a1fa8643ad0aa0609c8"), looks := true }, kinds := [], alts := [], laidByText := true, laidKinds := [.data], laidTests := true, laidLooks := .later }
def RouteNewsUptoCardSaid : Prop := Claim7.holds Tryz.pinned (.plain (OpenSpec.upto routeNewsSpec)) routeNewsUptoCard

/-- THE SECOND FORM's CARD OF 'turnpikelaw14.RouteOrder'. -/
def routeOrderUptoCard : Claim7 := { stood := { row := routeOrderUptoRow, standIns := [], harness := (true, "53822979b894400b783af9e43943d65eb6e6cba4c5136a1fa8643ad0aa0609c8"), looks := true }, kinds := [], alts := [], laidByText := true, laidKinds := [.data], laidTests := true, laidLooks := .later }
def RouteOrderUptoCardSaid : Prop := Claim7.holds Tryz.pinned (.plain (OpenSpec.upto routeOrderSpec)) routeOrderUptoCard

/-- THE SECOND FORM's CARD OF 'turnpikelaw14.RouteFirst'. -/
def routeFirstUptoCard : Claim7 := { stood := { row := routeFirstUptoRow, standIns := [], harness := (true, "53822979b894400b783af9e43943d65eb6e6cba4c5136a1fa8643ad0aa0609c8"), looks := true }, kinds := [], alts := [], laidByText := true, laidKinds := [.data], laidTests := true, laidLooks := .later }
def RouteFirstUptoCardSaid : Prop := Claim7.holds Tryz.pinned (.plain (OpenSpec.upto routeFirstSpec)) routeFirstUptoCard

/-- THE SECOND FORM's CARD OF 'turnpikelaw14.RouteMatches'. -/
def routeMatchesUptoCard : Claim7 := { stood := { row := routeMatchesUptoRow, standIns := [], harness := (true, "53822979b894400b783af9e43943d65eb6e6cba4c5136a1fa8643ad0aa0609c8"), looks := true }, kinds := [], alts := [], laidByText := true, laidKinds := [.data], laidTests := true, laidLooks := .later }
def RouteMatchesUptoCardSaid : Prop := Claim7.holds Tryz.pinned (.plain (OpenSpec.upto routeMatchesSpec)) routeMatchesUptoCard

/-- THE SECOND FORM's CARD OF 'turnpikelaw14.RouteMemory'. -/
def routeMemoryUptoCard : Claim7 := { stood := { row := routeMemoryUptoRow, standIns := [], harness := (true, "53822979b894400b783af9e43943d65eb6e6cba4c5136a1fa8643ad0aa0609c8"), looks := true }, kinds := [], alts := [], laidByText := true, laidKinds := [.data], laidTests := true, laidLooks := .later }
def RouteMemoryUptoCardSaid : Prop := Claim7.holds Tryz.pinned (.plain (OpenSpec.upto routeMemorySpec)) routeMemoryUptoCard

/-- THE SECOND FORM's CARD OF 'turnpikelaw14.RoutePaths'. -/
def routePathsUptoCard : Claim7 := { stood := { row := routePathsUptoRow, standIns := [], harness := (true, "53822979b894400b783af9e43943d65eb6e6cba4c5136a1fa8643ad0aa0609c8"), looks := true }, kinds := [], alts := [], laidByText := true, laidKinds := [.data, .data, .pinned], laidTests := true, laidLooks := .later }
def RoutePathsUptoCardSaid : Prop := Claim7.holds Tryz.pinned (.plain (OpenSpec.upto routePathsSpec)) routePathsUptoCard

/-- THE SECOND FORM's CARD OF 'turnpikelaw14.RouteBack'. -/
def routeBackUptoCard : Claim7 := { stood := { row := routeBackUptoRow, standIns := [], harness := (true, "53822979b894400b783af9e43943d65eb6e6cba4c5136a1fa8643ad0aa0609c8"), looks := true }, kinds := [], alts := [], laidByText := true, laidKinds := [.data, .data, .pinned], laidTests := true, laidLooks := .later }
def RouteBackUptoCardSaid : Prop := Claim7.holds Tryz.pinned (.plain (OpenSpec.upto routeBackSpec)) routeBackUptoCard

/-- THE SECOND FORM's CARD OF 'turnpikelaw14.RouteAll'. -/
def routeAllUptoCard : Claim7 := { stood := { row := routeAllUptoRow, standIns := [], harness := (true, "53822979b894400b783af9e43943d65eb6e6cba4c5136a1fa8643ad0aa0609c8"), looks := true }, kinds := [], alts := [], laidByText := true, laidKinds := [.data, .data, .pinned], laidTests := true, laidLooks := .later }
def RouteAllUptoCardSaid : Prop := Claim7.holds Tryz.pinned (.plain (OpenSpec.upto routeAllSpec)) routeAllUptoCard
end Rows
end Go.Proofs.YtiohmnhbmmhnhaaGreatDoor
