/-
  TgT, without what this claim does not reach.
-/
import Derived.Test.YtiohmnhbmmhnhaaGreatDoorZTgH
namespace Go.Proofs.YtiohmnhbmmhnhaaGreatDoor
structure Tg where
  form : Int
  host : ByteArray
  port : Int
  path : ByteArray
  query : ByteArray
  hasq : Bool
def slashT : ByteArray := ⟨#[47]⟩
def Tg.laid (t : Tg) (p q : ByteArray) (h : Bool) : Tg := { t with path := if p.size = 0 then slashT else p, query := q, hasq := h }
end Go.Proofs.YtiohmnhbmmhnhaaGreatDoor
