/-
  Texts joined; the bytes of a text appended: laws for the walks.
-/
import Derived.Test.YtiohmnhbmmhnhaaGreatDoorTgSp
import Derived.Test.YtiohmnhbmmhnhaaGreatDoorTgDc
import Derived.Test.YtiohmnhbmmhnhaaGreatDoorTgN
import Derived.Lib.Join
import Derived.Lib.AppendStr
namespace Go.Proofs.YtiohmnhbmmhnhaaGreatDoor
open Go.RowKit Go.Shelf Go.Lib

theorem join_len {l : List ByteArray} (h : l ≠ []) : (Lib.join (l.map (·.data.toList)) [47]).length + 1 = sumS l + l.length := by
  rw [← slashAll_len, slashAll_join h]
  rfl
theorem join_path {l : List ByteArray} (h : l ≠ []) : (⟨#[47]⟩ : ByteArray) ++ ⟨(Lib.join (l.map (·.data.toList)) [47]).toArray⟩ = pathOf l := by
  apply bytes_ext
  rw [cat_data]
  unfold pathOf
  rw [if_neg h]
  show _ = slashAll l
  rw [slashAll_join h]
theorem Join_own {w : World} {base c : Nat} {A : Option Addr} {l : List ByteArray} (h : w.ownsRow base 9 1 (.slice A l.length c) l.length (l.map .string)) (hne : l ≠ []) (hl : (Lib.join (l.map (·.data.toList)) [47]).length ≤ 140737488355328) (hn : l.length ≤ 140737488355328) :
    Calls Tryz.prog 138 #[.slice A l.length c, .string ⟨#[47]⟩] w fun e w' => e = .returned (.string ⟨(Lib.join (l.map (·.data.toList)) [47]).toArray⟩) ∧ Below w.heap.size w w' := by
  have hpos := List.length_pos_iff.2 hne
  obtain ⟨x, hx⟩ := some_of_lt hpos
  obtain ⟨b, off, rfl, hb, _⟩ := (own_row h).str hx
  have hcells : ∀ (j : Nat) x, l[j]? = some x → w.cell? ⟨b, off + j, none⟩ = some (.string x) := fun j x hj => by
    obtain ⟨b', off', he, _, hc⟩ := (own_row h).str hj
    injection he with he
    injection he with h1 h2
    subst h1 h2
    exact hc
  exact Tryz.strings_Join b off c l ⟨#[47]⟩ w hcells hb hn (own_cap h) hl
section
variable {P : Program} {w : World}
theorem step_append_own_string {ops : Array Oper} {o : Oper} {a : Act} {K : Act → World → Prop} {Q : Exit → Act → World → Prop} {E : Prop} (hgd : o.guard = none) (sl x : Operand) (t u : TypeId)
    (ho : o.op = .call { callee := .builtin .append, args := #[sl, x], argTypes := #[t, u] })
    (base : Nat) (e : TypeId) (i : TypeInfo) (ht : P.underlying t = some (.slice e)) (hu : P.underlying u = some .string) (hi : P.info? e = some i) (hz : i.zero = some (.int .u8 0))
    (hsize : i.size = 1) (hby : i.bytes = 1)
    (v : Value) (n : Nat) (xs : List Value) (hs : a.eval sl = v) (hown : w.ownsRow base e 1 v n xs) (s : ByteArray) (hx : a.eval x = .string s)
    (h63 : n + s.size ≤ maxLen) (hbytes : n + s.size ≤ 140737488355328) (hbase : base ≤ w.heap.size)
    (h : ∀ v' w', w'.ownsRow base e 1 v' (n + s.size) (xs ++ strCells s) → w.grownBy w' v.ownBlock → K (a.put o.dst v') w') :
    if Region.wanted o (yielded ops a.tmps) = true then Oper.wp P o a w K Q else E := by
  have hw : Region.wanted o (yielded ops a.tmps) = true := by simp [Region.wanted, hgd]
  rw [if_pos hw]
  obtain ⟨v', w', hr, h2, h3, h4⟩ := run_append_own_string (P := P) w base t u o.type e i ht hu hi hz hsize hby v n xs hown s h63 hbytes hbase
  unfold Oper.wp execOp
  simp only [ho, resolve, invoke, builtin, Sem.run_bind, Sem.run_pure, Result.andThen_ok, List.map_toArray, List.map_cons, List.map_nil, hs, hx, hr]
  exact h v' w' h2 h3
end
theorem cell_far {w w2 : World} {row : Option Nat} (hg : w.grownBy w2 row) (p : Addr) (hp : p.block < w.heap.size) (hne : some p.block ≠ row) : w2.cell? p = w.cell? p := World.cell?_of_block (hg.block p.block hp hne)
theorem strCells_eq (s : ByteArray) : Lib.strCells s = s.data.toList.map byteV := by simp [Lib.strCells, byteV]

theorem own_under {w : World} {b c : Nat} {v : Value} {l : List UInt8} (h : OwnB w c v l) (hb : b ≤ c) : OwnB w b v l := World.ownsRow.mono h hb
end Go.Proofs.YtiohmnhbmmhnhaaGreatDoor
