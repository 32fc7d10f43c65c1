/-
 TgB, without what this claim does not reach.
-/
import Derived.Test.YtiohmnhbmmhnhaaGreatDoorZTgT
namespace Go.Proofs.YtiohmnhbmmhnhaaGreatDoor
end Go.Proofs.YtiohmnhbmmhnhaaGreatDoor
