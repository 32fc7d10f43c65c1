/-
  Arguments that are lists of texts, or of what is done to a tree, opened to their parts.
-/
import Derived.Test.YtkhgnfofinpofaaRxFrame
import Derived.Test.YtkhgnfofinpofaaTgRs
import Derived.Test.YtkhgnfofinpofaaTgF3
import Derived.SliceStrings
namespace Go.Proofs.Ytkhgnfofinpofaa
open Go.ChangeShapes Go.WideShapes Go.ChangeAt Go.RowKit Go.Deep
open Go.ChangeMaps (open_string shut_string)

theorem tg_laidOut : laidOutB Try.prog = true := by kernel_rfl
/-- An argument reads behind the call as it read before. -/
theorem tg_stays {H : Type} {enc : TypeId × Value → H} {t : TypeId} (hr : Try.prog.readableRec t = true) (hrow : decide (t < Try.prog.types.size) = true) {W W' : World} {v : Value} {d : DataW H} {ps : List MemPlace}
    (h : DataW.Trod enc Try.prog W 0 (fun _ => true) true t v d ps) (hb : Below W.heap.size W W') (hlt : ∀ x ∈ ps, x.block < W.heap.size) {sp : Nat → Bool} (hsp : ∀ x ∈ ps, sp x.block = true) :
    DataW.Trod enc Try.prog W' 0 sp true t v d ps :=
  WideElems.Trod_stays tg_laidOut hr (of_decide_eq_true hrow) h (fun x hx => hb.same (hlt x hx)) hsp
/- An argument that is a slice of structs of one-cell fields, opened to its cells. -/
section
variable {H : Type} {enc : TypeId × Value → H} {P : Program} {w : World} {base : Nat} {spare : Nat → Bool} {held : Bool}
theorem open_slice_parts {t e : TypeId} {fs : Array Field} {fuel : Nat} {cs : List Value} {x : DataW H × List MemPlace} (ht : P.underlying t = some (.slice e)) (he : P.underlying e = some (.struct fs))
    (hone : oneCellFields P fs = true) (hC : P.cellsOf e = fs.size) (h : DataW.trod enc P w base spare held fuel t cs = some x) :
    (cs = [.slice none 0 0] ∧ x = (.nil, [])) ∨
    ∃ (a : Addr) (len cap m : Nat) (D : Nat → DataW H) (Pl : Nat → List MemPlace), cs = [.slice (some a) len cap] ∧ base ≤ a.block ∧ len ≤ cap ∧ cap ≤ maxLen ∧ m = (if spare a.block then cap else len) ∧
      x = (.slice ((List.range len).map D) ((List.range (m - len)).map fun j => D (len + j)), MemPlace.row a (m * fs.size) ++ (List.range m).flatMap Pl) ∧
      ∀ i, i < m → ∃ (ys : List (DataW H × List MemPlace)) (n : Nat), D i = .agg (ys.map (·.1)) ∧ Pl i = ys.flatMap (·.2) ∧ ys.length = fs.size ∧
        ∀ (j : Nat) (f : Field), fs[j]? = some f → ∃ (v : Value) (y : DataW H × List MemPlace), w.cell? (a.add (i * fs.size + j)) = some v ∧ ys[j]? = some y ∧ DataW.trod enc P w base spare held n f.type [v] = some y := by
  rcases open_slice ht h with h0 | ⟨a, len, cap, m, n, D, Pl, hcs, hb, hl, hm, hmm, hx, hi⟩
  · exact .inl h0
  · refine .inr ⟨a, len, cap, m, D, Pl, hcs, hb, hl, hm, hmm, by rw [hC] at hx; exact hx, fun i him => ?_⟩
    obtain ⟨cs', hc, ht'⟩ := hi i him
    rw [hC] at hc
    obtain ⟨ys, n', hn', hy, hlen, hyl, hf⟩ := DataW.trod_struct he ht'
    obtain ⟨_, hcl, hat⟩ := World.cells?_some hc
    simp only [Prod.mk.injEq] at hy
    refine ⟨ys, n', hy.1, hy.2, hyl, fun j f hj => ?_⟩
    obtain ⟨ho, hk⟩ := hone_of hone j f hj
    have hjl : j < fs.size := (Array.getElem?_eq_some_iff.1 hj).1
    have hcell := hat j hjl
    have hv : cs'[j]? = some (cs'[j]'(by omega)) := List.getElem?_eq_getElem (by omega)
    have h1 := hf j f hj
    rw [ho, hk] at h1
    have hone' : (cs'.drop j).take 1 = [cs'[j]'(by omega)] := by
      rw [List.drop_eq_getElem_cons (by omega)]
      rfl
    rw [hone'] at h1
    have hys : ys[j]? = some (ys[j]'(by omega)) := List.getElem?_eq_getElem (by omega)
    refine ⟨_, _, ?_, hys, h1.trans hys⟩
    rw [← Go.Deep.add_add, hcell, hv]
end


theorem spot_plain {w : World} {a : Addr} {v : Value} (h : w.cell? a = some v) : a.spot = none := World.cell?_spot h
theorem spot_add {a : Addr} {j : Nat} (h : (a.add j).spot = none) : a.add j = ⟨a.block, a.off + j, none⟩ := by
  unfold Addr.add at *
  split at h
  · rename_i h0
    simp only [h0]
    obtain ⟨b, o, s⟩ := a
    simp at h
    simp [h]
  · simp_all
theorem row_of_cells {W : World} {a : Addr} {xs : List Value} (h : ∀ i v, xs[i]? = some v → W.cell? (a.add i) = some v) : Row W (some a) xs := fun hpos => by
  obtain ⟨x0, hx0⟩ := some_of_lt hpos
  have hc0 := h 0 x0 hx0
  have hsp := spot_add (spot_plain hc0)
  have hblk : a.block < W.heap.size := by
    rcases Nat.lt_or_ge a.block W.heap.size with h1 | h1
    · exact h1
    · rw [hsp] at hc0
      simp [World.cell?, Array.getElem?_eq_none h1] at hc0
  refine ⟨a.block, a.off, ?_, hblk, fun j v hv => ?_⟩
  · have h1 := spot_plain hc0
    have e0 : a.add 0 = a := by simp [Addr.add]
    rw [e0] at h1
    obtain ⟨b, o, s⟩ := a
    simp at h1
    subst h1
    rfl
  · have := h j v hv
    rw [← spot_add (spot_plain this)]
    exact this
theorem bulk_texts {H : Type} : ∀ l : List ByteArray, Rows.uptoBulkAll (l.map fun s => DataW.lit (H := H) (.string s.data.toList)) = sumS l + l.length
  | [] => rfl
  | x :: l => by
    simp only [List.map_cons, Rows.uptoBulkAll, Rows.uptoBulk, bulk_texts l, sumS_cons, List.length_cons, size_eq]
    omega
set_option maxRecDepth 100000 in
theorem open_texts {H : Type} {enc : TypeId × Value → H} {W : World} {base : Nat} {v : Value} {d : DataW H} {p : List MemPlace} (hv : Value.okWide Try.prog W .any base 22 v) (h : DataW.Trod enc Try.prog W 0 (fun _ => true) true 22 v d p) :
    ∃ (A : Option Addr) (c : Nat) (l : List ByteArray), v = .slice A l.length c ∧ Row W A (l.map .string) ∧ sumS l + l.length + 1 ≤ Rows.uptoBulk d := by
  obtain ⟨a0, len0, cap0, rfl⟩ := okWide_slice Try.underlying22 hv
  obtain ⟨fuel, hf⟩ := h
  rcases open_strings Try.underlying22 Try.underlying9 (by kernel_rfl) hf with ⟨hcs, hx⟩ | ⟨a, len, cap, ss, hcs, _, hl, hm, hss, hx, hcell, _⟩
  · simp [Value.cells] at hcs
    obtain ⟨rfl, rfl, rfl⟩ := hcs
    simp at hx
    obtain ⟨rfl, rfl⟩ := hx
    exact ⟨none, 0, [], rfl, Row.nil _ _, by simp [sumS, Rows.uptoBulk]⟩
  · have hA : (Value.slice a0 len0 cap0) = .slice (some a) len cap := by simpa [Value.cells] using hcs
    injection hA with e0 e1 e2
    subst e0 e1 e2
    simp only [if_true] at hss
    have hlen : (ss.take len0).length = len0 := by rw [List.length_take]; omega
    refine ⟨some a, cap0, ss.take len0, by rw [hlen], row_of_cells fun i v hv => ?_, ?_⟩
    · rw [List.getElem?_map, Option.map_eq_some_iff] at hv
      obtain ⟨x, hx1, rfl⟩ := hv
      have hi : i < ss.length := by
        have := lt_of_some hx1
        rw [List.length_take] at this
        omega
      rw [hcell i hi]
      have hx2 : ss[i]? = some x := by
        rw [List.getElem?_take] at hx1
        split at hx1
        · exact hx1
        · cases hx1
      rw [List.getD_eq_getElem?_getD, hx2]
      rfl
    · have hd : d = _ := congrArg Prod.fst hx
      rw [hd]
      simp only [Rows.uptoBulk]
      have e : ∀ m : List ByteArray, strs (H := H) m = m.map fun s => DataW.lit (H := H) (.string s.data.toList) := fun _ => rfl
      rw [e, bulk_texts]
      omega
end Go.Proofs.Ytkhgnfofinpofaa
