/-
 TgSp, without what this claim does not reach.
-/
import Derived.Test.YtiohmnhbmmhnhaaGreatDoorZTgLib
import Derived.Lib.ItoaLen
namespace Go.Proofs.YtiohmnhbmmhnhaaGreatDoor
open Go.RowKit Go.Shelf Go.Lib
theorem info_string : (Tryz.prog.info? 9).map (fun i => (i.zero, i.size, i.bytes)) = some (some (.string ⟨#[]⟩), 1, 16) := by kernel_rfl
def GivesStrs (w : World) (ss : List ByteArray) (e : Ending) (w' : World) : Prop :=
 ∃ A c, e = .returned (.slice A ss.length c) ∧ w'.ownsRow w.heap.size 9 1 (.slice A ss.length c) ss.length (ss.map .string) ∧ Below w.heap.size w w'
theorem gives_strs {w w' : World} {ss : List ByteArray} {v : Value} (ho : w'.ownsRow w.heap.size 9 1 v ss.length (ss.map .string)) (hb : Below w.heap.size w w') : GivesStrs w ss (.returned v) w' := by
 obtain ⟨A, c, rfl⟩ := own_slice ho
 exact ⟨A, c, rfl, ho, hb⟩
theorem cat_data (b : UInt8) (l : List UInt8) : ((⟨#[b]⟩ : ByteArray) ++ (⟨l.toArray⟩ : ByteArray)).data.toList = b :: l := by
 rw [ByteArray.data_append]
 simp
end Go.Proofs.YtiohmnhbmmhnhaaGreatDoor
