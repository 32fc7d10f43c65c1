/-
  RxFr, without what this claim does not reach.
-/
import Derived.Test.YtiohmnhbmmhnhaaGreatDoorZRxRp
import Derived.Test.YtiohmnhbmmhnhaaGreatDoorZRxLawChecks
namespace Go.Proofs.YtiohmnhbmmhnhaaGreatDoor
open Go.RowKit Go.Shelf Go.Lib
end Go.Proofs.YtiohmnhbmmhnhaaGreatDoor
