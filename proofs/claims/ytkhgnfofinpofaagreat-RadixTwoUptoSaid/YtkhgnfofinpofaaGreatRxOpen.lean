/-
  Arguments that are lists of texts, or of what is done to a tree, opened to their parts.
-/
import Derived.Test.YtkhgnfofinpofaaGreatRxFrame
import Derived.Test.YtkhgnfofinpofaaGreatTgRs
import Derived.Test.YtkhgnfofinpofaaGreatTgF3
import Derived.SliceStrings
namespace Go.Proofs.YtkhgnfofinpofaaGreat
open Go.ChangeShapes Go.WideShapes Go.ChangeAt Go.RowKit Go.Deep
open Go.ChangeMaps (open_string shut_string)

theorem tg_laidOut : laidOutB Tryz.prog = true := by kernel_rfl
/-- An argument reads behind the call as it read before. -/
theorem tg_stays {H : Type} {enc : TypeId × Value → H} {t : TypeId} (hr : Tryz.prog.readableRec t = true) (hrow : decide (t < Tryz.prog.types.size) = true) {W W' : World} {v : Value} {d : DataW H} {ps : List MemPlace}
    (h : DataW.Trod enc Tryz.prog W 0 (fun _ => true) true t v d ps) (hb : Below W.heap.size W W') (hlt : ∀ x ∈ ps, x.block < W.heap.size) {sp : Nat → Bool} (hsp : ∀ x ∈ ps, sp x.block = true) :
    DataW.Trod enc Tryz.prog W' 0 sp true t v d ps :=
  WideElems.Trod_stays tg_laidOut hr (of_decide_eq_true hrow) h (fun x hx => hb.same (hlt x hx)) hsp
/- An argument that is a slice of structs of one-cell fields, opened to its cells. -/
section
variable {H : Type} {enc : TypeId × Value → H} {P : Program} {w : World} {base : Nat} {spare : Nat → Bool} {held : Bool}
theorem open_slice_parts {t e : TypeId} {fs : Array Field} {fuel : Nat} {cs : List Value} {x : DataW H × List MemPlace} (ht : P.underlying t = some (.slice e)) (he : P.underlying e = some (.struct fs))
    (hone : oneCellFields P fs = true) (hC : P.cellsOf e = fs.size) (h : DataW.trod enc P w base spare held fuel t cs = some x) :
    (cs = [.slice none 0 0] ∧ x = (.nil, [])) ∨
    ∃ (a : Addr) (len cap m : Nat) (D : Nat → DataW H) (Pl : Nat → List MemPlace), cs = [.slice (some a) len cap] ∧ base ≤ a.block ∧ len ≤ cap ∧ cap ≤ maxLen ∧ m = (if spare a.block then cap else len) ∧
      x = (.slice ((List.range len).map D) ((List.range (m - len)).map fun j => D (len + j)), MemPlace.row a (m * fs.size) ++ (List.range m).flatMap Pl) ∧
      ∀ i, i < m → ∃ (ys : List (DataW H × List MemPlace)) (n : Nat), D i = .agg (ys.map (·.1)) ∧ Pl i = ys.flatMap (·.2) ∧ ys.length = fs.size ∧
        ∀ (j : Nat) (f : Field), fs[j]? = some f → ∃ (v : Value) (y : DataW H × List MemPlace), w.cell? (a.add (i * fs.size + j)) = some v ∧ ys[j]? = some y ∧ DataW.trod enc P w base spare held n f.type [v] = some y := by
  rcases open_slice ht h with h0 | ⟨a, len, cap, m, n, D, Pl, hcs, hb, hl, hm, hmm, hx, hi⟩
  · exact .inl h0
  · refine .inr ⟨a, len, cap, m, D, Pl, hcs, hb, hl, hm, hmm, by rw [hC] at hx; exact hx, fun i him => ?_⟩
    obtain ⟨cs', hc, ht'⟩ := hi i him
    rw [hC] at hc
    obtain ⟨ys, n', hn', hy, hlen, hyl, hf⟩ := DataW.trod_struct he ht'
    obtain ⟨_, hcl, hat⟩ := World.cells?_some hc
    simp only [Prod.mk.injEq] at hy
    refine ⟨ys, n', hy.1, hy.2, hyl, fun j f hj => ?_⟩
    obtain ⟨ho, hk⟩ := hone_of hone j f hj
    have hjl : j < fs.size := (Array.getElem?_eq_some_iff.1 hj).1
    have hcell := hat j hjl
    have hv : cs'[j]? = some (cs'[j]'(by omega)) := List.getElem?_eq_getElem (by omega)
    have h1 := hf j f hj
    rw [ho, hk] at h1
    have hone' : (cs'.drop j).take 1 = [cs'[j]'(by omega)] := by
      rw [List.drop_eq_getElem_cons (by omega)]
      rfl
    rw [hone'] at h1
    have hys : ys[j]? = some (ys[j]'(by omega)) := List.getElem?_eq_getElem (by omega)
    refine ⟨_, _, ?_, hys, h1.trans hys⟩
    rw [← Go.Deep.add_add, hcell, hv]
end


theorem spot_plain {w : World} {a : Addr} {v : Value} (h : w.cell? a = some v) : a.spot = none := World.cell?_spot h
theorem spot_add {a : Addr} {j : Nat} (h : (a.add j).spot = none) : a.add j = ⟨a.block, a.off + j, none⟩ := by
  unfold Addr.add at *
  split at h
  · rename_i h0
    simp only [h0]
    obtain ⟨b, o, s⟩ := a
    simp at h
    simp [h]
  · simp_all
theorem row_of_cells {W : World} {a : Addr} {xs : List Value} (h : ∀ i v, xs[i]? = some v → W.cell? (a.add i) = some v) : Row W (some a) xs := fun hpos => by
  obtain ⟨x0, hx0⟩ := some_of_lt hpos
  have hc0 := h 0 x0 hx0
  have hsp := spot_add (spot_plain hc0)
  have hblk : a.block < W.heap.size := by
    rcases Nat.lt_or_ge a.block W.heap.size with h1 | h1
    · exact h1
    · rw [hsp] at hc0
      simp [World.cell?, Array.getElem?_eq_none h1] at hc0
  refine ⟨a.block, a.off, ?_, hblk, fun j v hv => ?_⟩
  · have h1 := spot_plain hc0
    have e0 : a.add 0 = a := by simp [Addr.add]
    rw [e0] at h1
    obtain ⟨b, o, s⟩ := a
    simp at h1
    subst h1
    rfl
  · have := h j v hv
    rw [← spot_add (spot_plain this)]
    exact this
theorem bulk_texts {H : Type} : ∀ l : List ByteArray, Rows.uptoBulkAll (l.map fun s => DataW.lit (H := H) (.string s.data.toList)) = sumS l + l.length
  | [] => rfl
  | x :: l => by
    simp only [List.map_cons, Rows.uptoBulkAll, Rows.uptoBulk, bulk_texts l, sumS_cons, List.length_cons, size_eq]
    omega
set_option maxRecDepth 100000 in
theorem open_texts {H : Type} {enc : TypeId × Value → H} {W : World} {base : Nat} {v : Value} {d : DataW H} {p : List MemPlace} (hv : Value.okWide Tryz.prog W .any base 37 v) (h : DataW.Trod enc Tryz.prog W 0 (fun _ => true) true 37 v d p) :
    ∃ (A : Option Addr) (c : Nat) (l : List ByteArray), v = .slice A l.length c ∧ Row W A (l.map .string) ∧ sumS l + l.length + 1 ≤ Rows.uptoBulk d := by
  obtain ⟨a0, len0, cap0, rfl⟩ := okWide_slice Tryz.underlying37 hv
  obtain ⟨fuel, hf⟩ := h
  rcases open_strings Tryz.underlying37 Tryz.underlying9 (by kernel_rfl) hf with ⟨hcs, hx⟩ | ⟨a, len, cap, ss, hcs, _, hl, hm, hss, hx, hcell, _⟩
  · simp [Value.cells] at hcs
    obtain ⟨rfl, rfl, rfl⟩ := hcs
    simp at hx
    obtain ⟨rfl, rfl⟩ := hx
    exact ⟨none, 0, [], rfl, Row.nil _ _, by simp [sumS, Rows.uptoBulk]⟩
  · have hA : (Value.slice a0 len0 cap0) = .slice (some a) len cap := by simpa [Value.cells] using hcs
    injection hA with e0 e1 e2
    subst e0 e1 e2
    simp only [if_true] at hss
    have hlen : (ss.take len0).length = len0 := by rw [List.length_take]; omega
    refine ⟨some a, cap0, ss.take len0, by rw [hlen], row_of_cells fun i v hv => ?_, ?_⟩
    · rw [List.getElem?_map, Option.map_eq_some_iff] at hv
      obtain ⟨x, hx1, rfl⟩ := hv
      have hi : i < ss.length := by
        have := lt_of_some hx1
        rw [List.length_take] at this
        omega
      rw [hcell i hi]
      have hx2 : ss[i]? = some x := by
        rw [List.getElem?_take] at hx1
        split at hx1
        · exact hx1
        · cases hx1
      rw [List.getD_eq_getElem?_getD, hx2]
      rfl
    · have hd : d = _ := congrArg Prod.fst hx
      rw [hd]
      simp only [Rows.uptoBulk]
      have e : ∀ m : List ByteArray, strs (H := H) m = m.map fun s => DataW.lit (H := H) (.string s.data.toList) := fun _ => rfl
      rw [e, bulk_texts]
      omega
/-- Something that is done to a tree. -/
abbrev OpR := Int × ByteArray × Int
def opV (x : OpR) : List Value := [.int .i64 x.1, .string x.2.1, .int .i64 x.2.2]
def flatO (l : List OpR) : List Value := l.flatMap opV
def okO (x : OpR) : Prop := (-9223372036854775808 ≤ x.1 ∧ x.1 ≤ 9223372036854775807) ∧ (-9223372036854775808 ≤ x.2.2 ∧ x.2.2 ≤ 9223372036854775807)
theorem flatO_get {l : List OpR} {k : Nat} {x : OpR} (h : l[k]? = some x) : (flatO l)[k * 3]? = some (.int .i64 x.1) ∧ (flatO l)[k * 3 + 1]? = some (.string x.2.1) ∧ (flatO l)[k * 3 + 2]? = some (.int .i64 x.2.2) := by
  induction l generalizing k with
  | nil => simp at h
  | cons p l ih =>
    cases k with
    | zero =>
      simp at h
      subst h
      exact ⟨rfl, rfl, rfl⟩
    | succ k =>
      obtain ⟨h0, h1, h2⟩ := ih (k := k) (by simpa using h)
      have e : flatO (p :: l) = .int .i64 p.1 :: .string p.2.1 :: .int .i64 p.2.2 :: flatO l := rfl
      rw [e, show (k + 1) * 3 = k * 3 + 1 + 1 + 1 by omega]
      simp only [List.getElem?_cons_succ]
      exact ⟨h0, h1, h2⟩
theorem Row.op {w : World} {A : Option Addr} {l : List OpR} {k : Nat} {x : OpR} (h : Row w A (flatO l)) (hk : l[k]? = some x) :
    ∃ b off, A = some ⟨b, off, none⟩ ∧ b < w.heap.size ∧ w.cell? ⟨b, off + k * 3, none⟩ = some (.int .i64 x.1) ∧ w.cell? ⟨b, off + k * 3 + 1, none⟩ = some (.string x.2.1) ∧ w.cell? ⟨b, off + k * 3 + 2, none⟩ = some (.int .i64 x.2.2) := by
  obtain ⟨h0, h1, h2⟩ := flatO_get hk
  obtain ⟨b, off, e, hb, hc⟩ := h.at_ h0
  exact ⟨b, off, e, hb, hc _ _ h0, by rw [Nat.add_assoc]; exact hc _ _ h1, by rw [Nat.add_assoc]; exact hc _ _ h2⟩
/-- How much a list of such weighs. -/
def bulkO (l : List OpR) : Nat := (l.map fun p => p.2.1.size + 4).sum
theorem bulk_ops {H : Type} : ∀ l : List OpR, Rows.uptoBulkAll (l.map fun p => DataW.agg (H := H) [.lit (.int .i64 p.1), .lit (.string p.2.1.data.toList), .lit (.int .i64 p.2.2)]) = bulkO l
  | [] => rfl
  | p :: l => by
    simp only [List.map_cons, Rows.uptoBulkAll, Rows.uptoBulk, bulk_ops l, bulkO, List.sum_cons, size_eq]
    omega
theorem flatO_inv {l : List OpR} {j : Nat} {v : Value} (h : (flatO l)[j]? = some v) : ∃ (i : Nat) (x : OpR), l[i]? = some x ∧ ((j = i * 3 ∧ v = .int .i64 x.1) ∨ (j = i * 3 + 1 ∧ v = .string x.2.1) ∨ (j = i * 3 + 2 ∧ v = .int .i64 x.2.2)) := by
  induction l generalizing j with
  | nil => simp [flatO] at h
  | cons p l ih =>
    have e : flatO (p :: l) = .int .i64 p.1 :: .string p.2.1 :: .int .i64 p.2.2 :: flatO l := rfl
    rw [e] at h
    match j with
    | 0 => exact ⟨0, p, rfl, .inl ⟨rfl, by simpa using h.symm⟩⟩
    | 1 => exact ⟨0, p, rfl, .inr (.inl ⟨rfl, by simpa using h.symm⟩)⟩
    | 2 => exact ⟨0, p, rfl, .inr (.inr ⟨rfl, by simpa using h.symm⟩)⟩
    | j + 3 =>
      obtain ⟨i, x, hi, hj⟩ := ih (j := j) (by simpa using h)
      refine ⟨i + 1, x, by simpa using hi, ?_⟩
      rcases hj with ⟨h1, h2⟩ | ⟨h1, h2⟩ | ⟨h1, h2⟩
      · exact .inl ⟨by omega, h2⟩
      · exact .inr (.inl ⟨by omega, h2⟩)
      · exact .inr (.inr ⟨by omega, h2⟩)
set_option maxRecDepth 100000 in
theorem open_ops {H : Type} {enc : TypeId × Value → H} {W : World} {base : Nat} {v : Value} {d : DataW H} {p : List MemPlace} (hv : Value.okWide Tryz.prog W .any base 22 v) (h : DataW.Trod enc Tryz.prog W 0 (fun _ => true) true 22 v d p) :
    ∃ (A : Option Addr) (c : Nat) (l : List OpR), v = .slice A l.length c ∧ Row W A (flatO l) ∧ bulkO l + 1 ≤ Rows.uptoBulk d ∧ ∀ x ∈ l, okO x := by
  obtain ⟨a0, len0, cap0, rfl⟩ := okWide_slice Tryz.underlying22 hv
  obtain ⟨fuel, hf⟩ := h
  rcases open_slice_parts Tryz.underlying22 Tryz.underlying30 (by kernel_rfl) (by kernel_rfl) hf with ⟨hcs, hx⟩ | ⟨a, len, cap, m, D, Pl, hcs, _, hl, hm, hmm, hx, hcell⟩
  · simp [Value.cells] at hcs
    obtain ⟨rfl, rfl, rfl⟩ := hcs
    simp at hx
    obtain ⟨rfl, rfl⟩ := hx
    exact ⟨none, 0, [], rfl, Row.nil _ _, by simp [bulkO, Rows.uptoBulk], fun x hx => by cases hx⟩
  · have hA : (Value.slice a0 len0 cap0) = .slice (some a) len cap := by simpa [Value.cells] using hcs
    injection hA with e0 e1 e2
    subst e0 e1 e2
    simp only [if_true] at hmm
    subst hmm
    have hall : ∀ i, i < m → ∃ q : OpR, D i = .agg [.lit (.int .i64 q.1), .lit (.string q.2.1.data.toList), .lit (.int .i64 q.2.2)] ∧ W.cell? (a.add (i * 3)) = some (.int .i64 q.1) ∧ W.cell? (a.add (i * 3 + 1)) = some (.string q.2.1) ∧ W.cell? (a.add (i * 3 + 2)) = some (.int .i64 q.2.2) ∧ okO q := by
      intro i hi
      obtain ⟨ys, n, hD, _, hyl, hj⟩ := hcell i hi
      obtain ⟨v0, y0, hc0, hy0, ht0⟩ := hj 0 _ rfl
      obtain ⟨v1, y1, hc1, hy1, ht1⟩ := hj 1 _ rfl
      obtain ⟨v2, y2, hc2, hy2, ht2⟩ := hj 2 _ rfl
      obtain ⟨n0, hs0, rfl, wf0⟩ := DataW.trod_int Tryz.underlying3 ht0
      obtain ⟨s1, hs1, rfl, _⟩ := DataW.trod_string Tryz.underlying9 ht1
      obtain ⟨n2, hs2, rfl, wf2⟩ := DataW.trod_int Tryz.underlying3 ht2
      simp at hs0 hs1 hs2
      subst hs0 hs1 hs2
      have hys : ys = [(.lit (.int .i64 n0), []), (.lit (.string s1.data.toList), []), (.lit (.int .i64 n2), [])] := by
        match ys, hyl with
        | [x0, x1, x2], _ =>
          simp at hy0 hy1 hy2
          rw [hy0, hy1, hy2]
      refine ⟨(n0, s1, n2), ?_, hc0, hc1, hc2, bounds_i64 wf0, bounds_i64 wf2⟩
      rw [hD, hys]
      rfl
    obtain ⟨Q, hQ⟩ := choose_lt (α := OpR) (p := fun i (q : OpR) => D i = .agg [.lit (.int .i64 q.1), .lit (.string q.2.1.data.toList), .lit (.int .i64 q.2.2)] ∧ W.cell? (a.add (i * 3)) = some (.int .i64 q.1) ∧ W.cell? (a.add (i * 3 + 1)) = some (.string q.2.1) ∧ W.cell? (a.add (i * 3 + 2)) = some (.int .i64 q.2.2) ∧ okO q) hall
    have hget : ∀ (i : Nat) (q : OpR), ((List.range len0).map Q)[i]? = some q → i < len0 ∧ Q i = q := by
      intro i q hq
      have hi : i < len0 := by simpa using (List.getElem?_eq_some_iff.1 hq).1
      simp [hi] at hq
      exact ⟨hi, hq⟩
    refine ⟨some a, m, (List.range len0).map Q, by rw [List.length_map, List.length_range], row_of_cells fun j v hv => ?_, ?_, fun x hx => ?_⟩
    · obtain ⟨i, x, hi, hj⟩ := flatO_inv hv
      obtain ⟨hil, hq⟩ := hget _ _ hi
      obtain ⟨_, h1, h2, h3, _⟩ := hQ i (by omega)
      rw [hq] at h1 h2 h3
      rcases hj with ⟨rfl, rfl⟩ | ⟨rfl, rfl⟩ | ⟨rfl, rfl⟩
      · exact h1
      · exact h2
      · exact h3
    · have hd : d = .slice ((List.range len0).map D) ((List.range (m - len0)).map fun j => D (len0 + j)) := congrArg Prod.fst hx
      have e1 : (List.range len0).map D = ((List.range len0).map Q).map fun q => DataW.agg (H := H) [.lit (.int .i64 q.1), .lit (.string q.2.1.data.toList), .lit (.int .i64 q.2.2)] := by
        rw [List.map_map]
        exact List.map_congr_left fun i hi => (hQ i (by have := List.mem_range.1 hi; omega)).1
      rw [hd]
      simp only [Rows.uptoBulk, e1, bulk_ops]
      omega
    · obtain ⟨i, hi, rfl⟩ := List.mem_map.1 hx
      exact (hQ i (by have := List.mem_range.1 hi; omega)).2.2.2.2
end Go.Proofs.YtkhgnfofinpofaaGreat
