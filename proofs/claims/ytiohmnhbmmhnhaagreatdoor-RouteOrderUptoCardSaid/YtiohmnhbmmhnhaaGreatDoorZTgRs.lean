/-
  TgRs, without what this claim does not reach.
-/
import Derived.Test.YtiohmnhbmmhnhaaGreatDoorZTgDc
import Derived.Test.YtiohmnhbmmhnhaaGreatDoorZTgB
import Derived.Test.YtiohmnhbmmhnhaaGreatDoorZTgR
import Derived.Test.YtiohmnhbmmhnhaaGreatDoorZTgT
import Derived.Test.YtiohmnhbmmhnhaaGreatDoorZTgLib
namespace Go.Proofs.YtiohmnhbmmhnhaaGreatDoor
open Go.RowKit Go.Shelf Go.Lib
end Go.Proofs.YtiohmnhbmmhnhaaGreatDoor
namespace Go.Proofs.YtiohmnhbmmhnhaaGreatDoor
open Go.RowKit Go.Shelf Go.Lib
section
variable {t : Tg} {s : ByteArray} {i : Nat}
end
end Go.Proofs.YtiohmnhbmmhnhaaGreatDoor
namespace Go.Proofs.YtiohmnhbmmhnhaaGreatDoor
open Go.RowKit Go.Shelf Go.Lib
end Go.Proofs.YtiohmnhbmmhnhaaGreatDoor
namespace Go.Proofs.YtiohmnhbmmhnhaaGreatDoor
open Go.RowKit Go.Shelf Go.Lib
end Go.Proofs.YtiohmnhbmmhnhaaGreatDoor
