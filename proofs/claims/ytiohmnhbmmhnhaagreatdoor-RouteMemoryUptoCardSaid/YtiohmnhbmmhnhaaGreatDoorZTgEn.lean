/-
 TgEn, without what this claim does not reach.
-/
import Derived.Test.YtiohmnhbmmhnhaaGreatDoorZTgE
namespace Go.Proofs.YtiohmnhbmmhnhaaGreatDoor
open Go.RowKit Go.Shelf Go.Lib
theorem builder_below {T e : TypeId} {B b : Nat} {bs : List Value} {w w' : World} (h : Lib.IsBuilderF T e B b bs w) (hb : Below w.heap.size w w') : Lib.IsBuilderF T e B b bs w' := by
 have one : ∀ p, Lib.BuilderAtF T e B b p bs w → Lib.BuilderAtF T e B b p bs w' := fun p hp => by
  have hlt := hp.lt
  obtain ⟨hB, v, hv, hown, hne⟩ := hp
  exact ⟨hB, v, (hb.block b hlt).trans hv, hown.kept (row := none) ⟨hb.os, hb.tape, hb.output, hb.size, fun k hk _ => hb.block k hk⟩ (by cases hv : v.ownBlock <;> simp), hne⟩
 exact h.elim (fun x => .inl (one _ x)) (fun x => .inr (one _ x))
theorem row_newc (w : World) (cs : Array Value) (t : TypeId) {n : Nat} (hn : n = w.heap.size) : Row (w.alloc (.cells cs t)) (some ⟨n, 0, none⟩) cs.toList := fun _ => by
 subst hn
 refine ⟨_, 0, rfl, by simp, fun j v hv => ?_⟩
 rw [Nat.zero_add, World.cell?_alloc_new]
 simpa using hv
theorem below_drew {B : Nat} {w w' : World} (h : Below B w w') : Below B w w'.drew := ⟨h.os, h.tape, h.output, h.size, h.block⟩
end Go.Proofs.YtiohmnhbmmhnhaaGreatDoor
