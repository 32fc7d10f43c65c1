/-
  An argument that is a target, opened to its parts.
-/
import Derived.Test.YtjlnbjlhlglneaaDoorTgFrame
import Derived.Test.YtjlnbjlhlglneaaDoorTgBh
import Derived.Test.YtjlnbjlhlglneaaDoorTgF3
import Derived.SliceStrings
namespace Go.Proofs.YtjlnbjlhlglneaaDoor
open Go.ChangeShapes Go.WideShapes Go.ChangeAt Go.RowKit Go.Deep
open Go.ChangeMaps (open_string shut_string)

theorem tg_laidOut : laidOutB Tryd.prog = true := by kernel_rfl
/-- An argument reads behind the call as it read before. -/
theorem tg_stays {H : Type} {enc : TypeId × Value → H} {t : TypeId} (hr : Tryd.prog.readableRec t = true) (hrow : decide (t < Tryd.prog.types.size) = true) {W W' : World} {v : Value} {d : DataW H} {ps : List MemPlace}
    (h : DataW.Trod enc Tryd.prog W 0 (fun _ => true) true t v d ps) (hb : Below W.heap.size W W') (hlt : ∀ x ∈ ps, x.block < W.heap.size) {sp : Nat → Bool} (hsp : ∀ x ∈ ps, sp x.block = true) :
    DataW.Trod enc Tryd.prog W' 0 sp true t v d ps :=
  WideElems.Trod_stays tg_laidOut hr (of_decide_eq_true hrow) h (fun x hx => hb.same (hlt x hx)) hsp
def Tg.okW (t : Tg) : Prop := (-9223372036854775808 ≤ t.form ∧ t.form ≤ 9223372036854775807) ∧ (-9223372036854775808 ≤ t.port ∧ t.port ≤ 9223372036854775807)
def Tg.dat {H : Type} (t : Tg) : DataW H := .agg [.lit (.int .i64 t.form), .lit (.string t.host.data.toList), .lit (.int .i64 t.port), .lit (.string t.path.data.toList), .lit (.string t.query.data.toList), .lit (.bool t.hasq)]
set_option maxRecDepth 100000 in
theorem open_target {H : Type} {enc : TypeId × Value → H} {W : World} {base : Nat} {v : Value} {d : DataW H} {p : List MemPlace} (hv : Value.okWide Tryd.prog W .any base 23 v) (h : DataW.Trod enc Tryd.prog W 0 (fun _ => true) true 23 v d p) :
    ∃ t : Tg, v = t.val ∧ d = t.dat ∧ t.okW := by
  obtain ⟨cs, rfl, hcs⟩ := okWide_struct Tryd.underlying23 hv
  have h6 : Tryd.prog.cellsOf 23 = 6 := by kernel_rfl
  rw [h6] at hcs
  obtain ⟨fuel, hf⟩ := h
  obtain ⟨ys, n', hn', hy, hlen, hyl, hfs⟩ := DataW.trod_struct Tryd.underlying23 hf
  have hone : oneCellFields Tryd.prog (Tryd.prog.fieldsOf 23) = true := by kernel_rfl
  simp only [Program.fieldsOf, Tryd.underlying23] at hone
  obtain ⟨l, rfl⟩ : ∃ l : List Value, cs = l.toArray := ⟨cs.toList, by simp⟩
  have hl : l.length = 6 := by simpa using hcs
  match l, hl with
  | [x0, x1, x2, x3, x4, x5], _ =>
  have hy6 : ys.length = 6 := hyl
  match ys, hy6 with
  | [y0, y1, y2, y3, y4, y5], _ =>
  have g0 := hfs 0 _ rfl
  have g1 := hfs 1 _ rfl
  have g2 := hfs 2 _ rfl
  have g3 := hfs 3 _ rfl
  have g4 := hfs 4 _ rfl
  have g5 := hfs 5 _ rfl
  rw [(hone_of hone 0 _ rfl).1, (hone_of hone 0 _ rfl).2] at g0
  rw [(hone_of hone 1 _ rfl).1, (hone_of hone 1 _ rfl).2] at g1
  rw [(hone_of hone 2 _ rfl).1, (hone_of hone 2 _ rfl).2] at g2
  rw [(hone_of hone 3 _ rfl).1, (hone_of hone 3 _ rfl).2] at g3
  rw [(hone_of hone 4 _ rfl).1, (hone_of hone 4 _ rfl).2] at g4
  rw [(hone_of hone 5 _ rfl).1, (hone_of hone 5 _ rfl).2] at g5
  obtain ⟨n0, e0, r0, w0⟩ := DataW.trod_int Tryd.underlying3 g0
  obtain ⟨n1, e1, r1, w1⟩ := DataW.trod_string Tryd.underlying9 g1
  obtain ⟨n2, e2, r2, w2⟩ := DataW.trod_int Tryd.underlying3 g2
  obtain ⟨n3, e3, r3, w3⟩ := DataW.trod_string Tryd.underlying9 g3
  obtain ⟨n4, e4, r4, w4⟩ := DataW.trod_string Tryd.underlying9 g4
  obtain ⟨n5, e5, r5⟩ := DataW.trod_bool Tryd.underlying4 g5
  simp [Value.cells] at e0 e1 e2 e3 e4 e5
  subst e0 e1 e2 e3 e4 e5 r0 r1 r2 r3 r4 r5
  refine ⟨⟨n0, n1, n2, n3, n4, n5⟩, rfl, congrArg Prod.fst hy, ⟨bounds_i64 w0, bounds_i64 w2⟩⟩
/- An argument that is a slice of structs of one-cell fields, opened to its cells. -/
section
variable {H : Type} {enc : TypeId × Value → H} {P : Program} {w : World} {base : Nat} {spare : Nat → Bool} {held : Bool}
theorem open_slice_parts {t e : TypeId} {fs : Array Field} {fuel : Nat} {cs : List Value} {x : DataW H × List MemPlace} (ht : P.underlying t = some (.slice e)) (he : P.underlying e = some (.struct fs))
    (hone : oneCellFields P fs = true) (hC : P.cellsOf e = fs.size) (h : DataW.trod enc P w base spare held fuel t cs = some x) :
    (cs = [.slice none 0 0] ∧ x = (.nil, [])) ∨
    ∃ (a : Addr) (len cap m : Nat) (D : Nat → DataW H) (Pl : Nat → List MemPlace), cs = [.slice (some a) len cap] ∧ base ≤ a.block ∧ len ≤ cap ∧ cap ≤ maxLen ∧ m = (if spare a.block then cap else len) ∧
      x = (.slice ((List.range len).map D) ((List.range (m - len)).map fun j => D (len + j)), MemPlace.row a (m * fs.size) ++ (List.range m).flatMap Pl) ∧
      ∀ i, i < m → ∃ (ys : List (DataW H × List MemPlace)) (n : Nat), D i = .agg (ys.map (·.1)) ∧ Pl i = ys.flatMap (·.2) ∧ ys.length = fs.size ∧
        ∀ (j : Nat) (f : Field), fs[j]? = some f → ∃ (v : Value) (y : DataW H × List MemPlace), w.cell? (a.add (i * fs.size + j)) = some v ∧ ys[j]? = some y ∧ DataW.trod enc P w base spare held n f.type [v] = some y := by
  rcases open_slice ht h with h0 | ⟨a, len, cap, m, n, D, Pl, hcs, hb, hl, hm, hmm, hx, hi⟩
  · exact .inl h0
  · refine .inr ⟨a, len, cap, m, D, Pl, hcs, hb, hl, hm, hmm, by rw [hC] at hx; exact hx, fun i him => ?_⟩
    obtain ⟨cs', hc, ht'⟩ := hi i him
    rw [hC] at hc
    obtain ⟨ys, n', hn', hy, hlen, hyl, hf⟩ := DataW.trod_struct he ht'
    obtain ⟨_, hcl, hat⟩ := World.cells?_some hc
    simp only [Prod.mk.injEq] at hy
    refine ⟨ys, n', hy.1, hy.2, hyl, fun j f hj => ?_⟩
    obtain ⟨ho, hk⟩ := hone_of hone j f hj
    have hjl : j < fs.size := (Array.getElem?_eq_some_iff.1 hj).1
    have hcell := hat j hjl
    have hv : cs'[j]? = some (cs'[j]'(by omega)) := List.getElem?_eq_getElem (by omega)
    have h1 := hf j f hj
    rw [ho, hk] at h1
    have hone' : (cs'.drop j).take 1 = [cs'[j]'(by omega)] := by
      rw [List.drop_eq_getElem_cons (by omega)]
      rfl
    rw [hone'] at h1
    have hys : ys[j]? = some (ys[j]'(by omega)) := List.getElem?_eq_getElem (by omega)
    refine ⟨_, _, ?_, hys, h1.trans hys⟩
    rw [← Go.Deep.add_add, hcell, hv]
end


theorem spot_plain {w : World} {a : Addr} {v : Value} (h : w.cell? a = some v) : a.spot = none := World.cell?_spot h
theorem spot_add {a : Addr} {j : Nat} (h : (a.add j).spot = none) : a.add j = ⟨a.block, a.off + j, none⟩ := by
  unfold Addr.add at *
  split at h
  · rename_i h0
    simp only [h0]
    obtain ⟨b, o, s⟩ := a
    simp at h
    simp [h]
  · simp_all
theorem row_of_cells {W : World} {a : Addr} {xs : List Value} (h : ∀ i v, xs[i]? = some v → W.cell? (a.add i) = some v) : Row W (some a) xs := fun hpos => by
  obtain ⟨x0, hx0⟩ := some_of_lt hpos
  have hc0 := h 0 x0 hx0
  have hsp := spot_add (spot_plain hc0)
  have hblk : a.block < W.heap.size := by
    rcases Nat.lt_or_ge a.block W.heap.size with h1 | h1
    · exact h1
    · rw [hsp] at hc0
      simp [World.cell?, Array.getElem?_eq_none h1] at hc0
  refine ⟨a.block, a.off, ?_, hblk, fun j v hv => ?_⟩
  · have h1 := spot_plain hc0
    have e0 : a.add 0 = a := by simp [Addr.add]
    rw [e0] at h1
    obtain ⟨b, o, s⟩ := a
    simp at h1
    subst h1
    rfl
  · have := h j v hv
    rw [← spot_add (spot_plain this)]
    exact this
theorem bulk_texts {H : Type} : ∀ l : List ByteArray, Rows.uptoBulkAll (l.map fun s => DataW.lit (H := H) (.string s.data.toList)) = sumS l + l.length
  | [] => rfl
  | x :: l => by
    simp only [List.map_cons, Rows.uptoBulkAll, Rows.uptoBulk, bulk_texts l, sumS_cons, List.length_cons, size_eq]
    omega
set_option maxRecDepth 100000 in
theorem open_texts {H : Type} {enc : TypeId × Value → H} {W : World} {base : Nat} {v : Value} {d : DataW H} {p : List MemPlace} (hv : Value.okWide Tryd.prog W .any base 42 v) (h : DataW.Trod enc Tryd.prog W 0 (fun _ => true) true 42 v d p) :
    ∃ (A : Option Addr) (c : Nat) (l : List ByteArray), v = .slice A l.length c ∧ Row W A (l.map .string) ∧ sumS l + l.length + 1 ≤ Rows.uptoBulk d := by
  obtain ⟨a0, len0, cap0, rfl⟩ := okWide_slice Tryd.underlying42 hv
  obtain ⟨fuel, hf⟩ := h
  rcases open_strings Tryd.underlying42 Tryd.underlying9 (by kernel_rfl) hf with ⟨hcs, hx⟩ | ⟨a, len, cap, ss, hcs, _, hl, hm, hss, hx, hcell, _⟩
  · simp [Value.cells] at hcs
    obtain ⟨rfl, rfl, rfl⟩ := hcs
    simp at hx
    obtain ⟨rfl, rfl⟩ := hx
    exact ⟨none, 0, [], rfl, Row.nil _ _, by simp [sumS, Rows.uptoBulk]⟩
  · have hA : (Value.slice a0 len0 cap0) = .slice (some a) len cap := by simpa [Value.cells] using hcs
    injection hA with e0 e1 e2
    subst e0 e1 e2
    simp only [if_true] at hss
    have hlen : (ss.take len0).length = len0 := by rw [List.length_take]; omega
    refine ⟨some a, cap0, ss.take len0, by rw [hlen], row_of_cells fun i v hv => ?_, ?_⟩
    · rw [List.getElem?_map, Option.map_eq_some_iff] at hv
      obtain ⟨x, hx1, rfl⟩ := hv
      have hi : i < ss.length := by
        have := lt_of_some hx1
        rw [List.length_take] at this
        omega
      rw [hcell i hi]
      have hx2 : ss[i]? = some x := by
        rw [List.getElem?_take] at hx1
        split at hx1
        · exact hx1
        · cases hx1
      rw [List.getD_eq_getElem?_getD, hx2]
      rfl
    · have hd : d = _ := congrArg Prod.fst hx
      rw [hd]
      simp only [Rows.uptoBulk]
      have e : ∀ m : List ByteArray, strs (H := H) m = m.map fun s => DataW.lit (H := H) (.string s.data.toList) := fun _ => rfl
      rw [e, bulk_texts]
      omega
/-- How much a list of parameters weighs. -/
def bulkP (l : List Pr) : Nat := (l.map fun p => p.1.size + p.2.1.size + 4).sum
theorem bulk_trips {H : Type} : ∀ l : List Pr, Rows.uptoBulkAll (l.map fun p => DataW.agg (H := H) [.lit (.string p.1.data.toList), .lit (.string p.2.1.data.toList), .lit (.bool p.2.2)]) = bulkP l
  | [] => rfl
  | p :: l => by
    simp only [List.map_cons, Rows.uptoBulkAll, Rows.uptoBulk, bulk_trips l, bulkP, List.sum_cons, size_eq]
    omega
theorem flat3_inv {l : List Pr} {j : Nat} {v : Value} (h : (flat3 l)[j]? = some v) : ∃ (i : Nat) (x y : ByteArray) (c : Bool), l[i]? = some (x, y, c) ∧ ((j = i * 3 ∧ v = .string x) ∨ (j = i * 3 + 1 ∧ v = .string y) ∨ (j = i * 3 + 2 ∧ v = .bool c)) := by
  induction l generalizing j with
  | nil => simp [flat3] at h
  | cons p l ih =>
    obtain ⟨x, y, c⟩ := p
    have e : flat3 ((x, y, c) :: l) = .string x :: .string y :: .bool c :: flat3 l := rfl
    rw [e] at h
    match j with
    | 0 => exact ⟨0, x, y, c, rfl, .inl ⟨rfl, by simpa using h.symm⟩⟩
    | 1 => exact ⟨0, x, y, c, rfl, .inr (.inl ⟨rfl, by simpa using h.symm⟩)⟩
    | 2 => exact ⟨0, x, y, c, rfl, .inr (.inr ⟨rfl, by simpa using h.symm⟩)⟩
    | j + 3 =>
      obtain ⟨i, x', y', c', hi, hj⟩ := ih (j := j) (by simpa using h)
      refine ⟨i + 1, x', y', c', by simpa using hi, ?_⟩
      rcases hj with ⟨h1, h2⟩ | ⟨h1, h2⟩ | ⟨h1, h2⟩
      · exact .inl ⟨by omega, h2⟩
      · exact .inr (.inl ⟨by omega, h2⟩)
      · exact .inr (.inr ⟨by omega, h2⟩)
set_option maxRecDepth 100000 in
theorem open_params {H : Type} {enc : TypeId × Value → H} {W : World} {base : Nat} {v : Value} {d : DataW H} {p : List MemPlace} (hv : Value.okWide Tryd.prog W .any base 48 v) (h : DataW.Trod enc Tryd.prog W 0 (fun _ => true) true 48 v d p) :
    ∃ (A : Option Addr) (c : Nat) (l : List Pr), v = .slice A l.length c ∧ Row W A (flat3 l) ∧ bulkP l + 1 ≤ Rows.uptoBulk d := by
  obtain ⟨a0, len0, cap0, rfl⟩ := okWide_slice Tryd.underlying48 hv
  obtain ⟨fuel, hf⟩ := h
  rcases open_slice_parts Tryd.underlying48 Tryd.underlying93 (by kernel_rfl) (by kernel_rfl) hf with ⟨hcs, hx⟩ | ⟨a, len, cap, m, D, Pl, hcs, _, hl, hm, hmm, hx, hcell⟩
  · simp [Value.cells] at hcs
    obtain ⟨rfl, rfl, rfl⟩ := hcs
    simp at hx
    obtain ⟨rfl, rfl⟩ := hx
    exact ⟨none, 0, [], rfl, Row.nil _ _, by simp [bulkP, Rows.uptoBulk]⟩
  · have hA : (Value.slice a0 len0 cap0) = .slice (some a) len cap := by simpa [Value.cells] using hcs
    injection hA with e0 e1 e2
    subst e0 e1 e2
    simp only [if_true] at hmm
    subst hmm
    have hall : ∀ i, i < m → ∃ q : Pr, D i = .agg [.lit (.string q.1.data.toList), .lit (.string q.2.1.data.toList), .lit (.bool q.2.2)] ∧ W.cell? (a.add (i * 3)) = some (.string q.1) ∧ W.cell? (a.add (i * 3 + 1)) = some (.string q.2.1) ∧ W.cell? (a.add (i * 3 + 2)) = some (.bool q.2.2) := by
      intro i hi
      obtain ⟨ys, n, hD, _, hyl, hj⟩ := hcell i hi
      obtain ⟨v0, y0, hc0, hy0, ht0⟩ := hj 0 _ rfl
      obtain ⟨v1, y1, hc1, hy1, ht1⟩ := hj 1 _ rfl
      obtain ⟨v2, y2, hc2, hy2, ht2⟩ := hj 2 _ rfl
      obtain ⟨s0, hs0, rfl, _⟩ := DataW.trod_string Tryd.underlying9 ht0
      obtain ⟨s1, hs1, rfl, _⟩ := DataW.trod_string Tryd.underlying9 ht1
      obtain ⟨b2, hs2, rfl⟩ := DataW.trod_bool Tryd.underlying4 ht2
      simp at hs0 hs1 hs2
      subst hs0 hs1 hs2
      have hys : ys = [(.lit (.string s0.data.toList), []), (.lit (.string s1.data.toList), []), (.lit (.bool b2), [])] := by
        match ys, hyl with
        | [x0, x1, x2], _ =>
          simp at hy0 hy1 hy2
          rw [hy0, hy1, hy2]
      refine ⟨(s0, s1, b2), ?_, hc0, hc1, hc2⟩
      rw [hD, hys]
      rfl
    obtain ⟨Q, hQ⟩ := choose_lt (α := Pr) (p := fun i (q : Pr) => D i = .agg [.lit (.string q.1.data.toList), .lit (.string q.2.1.data.toList), .lit (.bool q.2.2)] ∧ W.cell? (a.add (i * 3)) = some (.string q.1) ∧ W.cell? (a.add (i * 3 + 1)) = some (.string q.2.1) ∧ W.cell? (a.add (i * 3 + 2)) = some (.bool q.2.2)) hall
    have hget : ∀ (i : Nat) (q : Pr), ((List.range len0).map Q)[i]? = some q → i < len0 ∧ Q i = q := by
      intro i q hq
      have hi : i < len0 := by simpa using (List.getElem?_eq_some_iff.1 hq).1
      simp [hi] at hq
      exact ⟨hi, hq⟩
    refine ⟨some a, m, (List.range len0).map Q, by rw [List.length_map, List.length_range], row_of_cells fun j v hv => ?_, ?_⟩
    · obtain ⟨i, x, y, c, hi, hj⟩ := flat3_inv hv
      obtain ⟨hil, hq⟩ := hget _ _ hi
      obtain ⟨_, h1, h2, h3⟩ := hQ i (by omega)
      rw [hq] at h1 h2 h3
      rcases hj with ⟨rfl, rfl⟩ | ⟨rfl, rfl⟩ | ⟨rfl, rfl⟩
      · exact h1
      · exact h2
      · exact h3
    · have hd : d = .slice ((List.range len0).map D) ((List.range (m - len0)).map fun j => D (len0 + j)) := congrArg Prod.fst hx
      have e1 : (List.range len0).map D = ((List.range len0).map Q).map fun q => DataW.agg (H := H) [.lit (.string q.1.data.toList), .lit (.string q.2.1.data.toList), .lit (.bool q.2.2)] := by
        rw [List.map_map]
        exact List.map_congr_left fun i hi => (hQ i (by have := List.mem_range.1 hi; omega)).1
      rw [hd]
      simp only [Rows.uptoBulk, e1, bulk_trips]
      omega
end Go.Proofs.YtjlnbjlhlglneaaDoor
