/-
  Encoding: the walks, of the program and of the reference.
-/
import Derived.Test.YtiohmnhbmmhnhaaGreatDoorTgE
namespace Go.Proofs.YtiohmnhbmmhnhaaGreatDoor
open Go.RowKit Go.Shelf Go.Lib

theorem builder_below {T e : TypeId} {B b : Nat} {bs : List Value} {w w' : World} (h : Lib.IsBuilderF T e B b bs w) (hb : Below w.heap.size w w') : Lib.IsBuilderF T e B b bs w' := by
  have one : ∀ p, Lib.BuilderAtF T e B b p bs w → Lib.BuilderAtF T e B b p bs w' := fun p hp => by
    have hlt := hp.lt
    obtain ⟨hB, v, hv, hown, hne⟩ := hp
    exact ⟨hB, v, (hb.block b hlt).trans hv, hown.kept (row := none) ⟨hb.os, hb.tape, hb.output, hb.size, fun k hk _ => hb.block k hk⟩ (by cases hv : v.ownBlock <;> simp), hne⟩
  exact h.elim (fun x => .inl (one _ x)) (fun x => .inr (one _ x))
theorem str_cells (l : List UInt8) : Lib.strCells ⟨l.toArray⟩ = Lib.byteCells l := rfl

/-- What a call hands back that writes on in a row of bytes of its caller's. -/
def GivesOn (w : World) (base : Nat) (l : List UInt8) (e : Ending) (w' : World) : Prop := ∃ v, e = .returned v ∧ OwnB w' base v l ∧ Below base w w'
theorem up_tab : ∀ n : Nat, n < 256 → bt upDigits (n / 16) = ((upDigits.data.toList.getD (n / 16) 0).toNat : Int) := fun _ _ => rfl
theorem row_newc (w : World) (cs : Array Value) (t : TypeId) {n : Nat} (hn : n = w.heap.size) : Row (w.alloc (.cells cs t)) (some ⟨n, 0, none⟩) cs.toList := fun _ => by
  subst hn
  refine ⟨_, 0, rfl, by simp, fun j v hv => ?_⟩
  rw [Nat.zero_add, World.cell?_alloc_new]
  simpa using hv
theorem up_get {k : Nat} (h : k < 16) : ((((⟨#[48, 49, 50, 51, 52, 53, 54, 55, 56, 57, 65, 66, 67, 68, 69, 70]⟩ : ByteArray)[k]'(show k < 16 from h)).toNat : Nat) : Int) = ((upDigits.data.toList.getD k 0).toNat : Int) := @bt_eq upDigits k h
theorem pct_arr (b : UInt8) : (pct b).map byteV = (#[.int .u8 37, .int .u8 ((upDigits.data[b.toNat / 16]?.getD 0).toNat : Int), .int .u8 ((upDigits.data[b.toNat % 16]?.getD 0).toNat : Int)] : Array Value).toList := by simp [pct, byteV]
theorem below_drew {B : Nat} {w w' : World} (h : Below B w w') : Below B w w'.drew := ⟨h.os, h.tape, h.output, h.size, h.block⟩
end Go.Proofs.YtiohmnhbmmhnhaaGreatDoor
