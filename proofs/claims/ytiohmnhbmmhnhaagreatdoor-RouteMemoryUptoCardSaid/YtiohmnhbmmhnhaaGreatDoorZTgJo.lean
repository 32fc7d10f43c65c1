/-
 TgJo, without what this claim does not reach.
-/
import Derived.Test.YtiohmnhbmmhnhaaGreatDoorZTgSp
import Derived.Test.YtiohmnhbmmhnhaaGreatDoorZTgDc
import Derived.Test.YtiohmnhbmmhnhaaGreatDoorZTgN
import Derived.Lib.Join
import Derived.Lib.AppendStr
namespace Go.Proofs.YtiohmnhbmmhnhaaGreatDoor
open Go.RowKit Go.Shelf Go.Lib
theorem join_len {l : List ByteArray} (h : l ≠ []) : (Lib.join (l.map (·.data.toList)) [47]).length + 1 = sumS l + l.length := by
 rw [← slashAll_len, slashAll_join h]
 rfl
theorem join_path {l : List ByteArray} (h : l ≠ []) : (⟨#[47]⟩ : ByteArray) ++ ⟨(Lib.join (l.map (·.data.toList)) [47]).toArray⟩ = pathOf l := by
 apply bytes_ext
 rw [cat_data]
 unfold pathOf
 rw [if_neg h]
 show _ = slashAll l
 rw [slashAll_join h]
theorem Join_own {w : World} {base c : Nat} {A : Option Addr} {l : List ByteArray} (h : w.ownsRow base 9 1 (.slice A l.length c) l.length (l.map .string)) (hne : l ≠ []) (hl : (Lib.join (l.map (·.data.toList)) [47]).length ≤ 140737488355328) (hn : l.length ≤ 140737488355328) :
  Calls Tryz.prog 138 #[.slice A l.length c, .string ⟨#[47]⟩] w fun e w' => e = .returned (.string ⟨(Lib.join (l.map (·.data.toList)) [47]).toArray⟩) ∧ Below w.heap.size w w' := by
 have hpos := List.length_pos_iff.2 hne
 obtain ⟨x, hx⟩ := some_of_lt hpos
 obtain ⟨b, off, rfl, hb, _⟩ := (own_row h).str hx
 have hcells : ∀ (j : Nat) x, l[j]? = some x → w.cell? ⟨b, off + j, none⟩ = some (.string x) := fun j x hj => by
  obtain ⟨b', off', he, _, hc⟩ := (own_row h).str hj
  injection he with he
  injection he with h1 h2
  subst h1 h2
  exact hc
 exact Tryz.strings_Join b off c l ⟨#[47]⟩ w hcells hb hn (own_cap h) hl
section
variable {P : Program} {w : World}
end
theorem cell_far {w w2 : World} {row : Option Nat} (hg : w.grownBy w2 row) (p : Addr) (hp : p.block < w.heap.size) (hne : some p.block ≠ row) : w2.cell? p = w.cell? p := World.cell?_of_block (hg.block p.block hp hne)
end Go.Proofs.YtiohmnhbmmhnhaaGreatDoor
