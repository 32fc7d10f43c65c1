/-
  What the frames of all statements of this seat share: the variables that the rows list, a world for the witness, the last step, lists of fields that come in.
-/
import Derived.Test.YtdipogmlpmkgcaaGreatDoorChD
import Derived.Test.YtdipogmlpmkgcaaGreatDoorSli
import Derived.Test.YtdipogmlpmkgcaaGreatDoorCards
import Derived.Test.YtdipogmlpmkgcaaGreatDoorTie
import Derived.ProofKit
import Derived.OpenShut
import Derived.Deep.DeepHandedRow
import Derived.Lib.LaidTab
import Derived.Stop.LaidErr
import Derived.ChangeSame
import Derived.Deep.Slices
import Derived.Deep.Fields
import Derived.WideKeyArgs
namespace Go.Proofs.YtdipogmlpmkgcaaGreatDoor
open Go.ChangeShapes Go.WideShapes Go.ChangeAt Go.RowKit Go.Deep
open Go.ChangeMaps (open_string shut_string)

theorem ownKnobNone : ownKnob Tryz.prog.godebug = none := by kernel_rfl
theorem gSigns : Tryz.prog.globalNamed "turnpike/octet.signs" = some 0 := by kernel_rfl
theorem gSignsType : (Tryz.prog.globals[0]?).map (·.type) = some 88 := by kernel_rfl
theorem cellsSigns : Tryz.prog.cellsOf 88 = 4 := by kernel_rfl
theorem cellsU32 : Tryz.prog.cellsOf 87 = 1 := by kernel_rfl
theorem gPowType : (Tryz.prog.globals[1]?).map (·.type) = some 143 := by kernel_rfl
theorem cellsPow : Tryz.prog.cellsOf 143 = 20 := by kernel_rfl
theorem cellsU64 : Tryz.prog.cellsOf 126 = 1 := by kernel_rfl

def theLaid : List (String × DataW Unit) := [("math/bits.deBruijn32tab", Rows.laid_math_bits_deBruijn32tab), ("math/bits.deBruijn64tab", Rows.laid_math_bits_deBruijn64tab), ("internal/strconv.uint64pow10", Rows.laid_internal_strconv_uint64pow10), ("unicode/utf8.acceptRanges", Rows.laid_unicode_utf8_acceptRanges), ("turnpike/octet.signs", Rows.laid_turnpike_octet_signs), ("unicode/utf8.first", Rows.laid_unicode_utf8_first)]
theorem no_handles : theLaid.filter (fun x => x.2.handleName?.isSome) = [] := by kernel_rfl
theorem laid_met_of {W : World} (h : laidMetH Tryz.prog theLaid W) : laidMet Tryz.prog theLaid W := by
  unfold laidMetH at h
  rw [no_handles] at h
  exact h
def powL : List Int := [1, 10, 100, 1000, 10000, 100000, 1000000, 10000000, 100000000, 1000000000, 10000000000, 100000000000, 1000000000000, 10000000000000, 100000000000000, 1000000000000000, 10000000000000000, 100000000000000000, 1000000000000000000, 10000000000000000000]
theorem powL_eq : powL = Lib.pow10Tab := by decide +kernel
/-- WHAT THE ROW's LIST GIVES: the tables' cells. -/
theorem glob_of {W : World} (h : laidMetH Tryz.prog theLaid W) (hs : W.ShapedOpen Tryz.prog) : GlobC W := by
  have h1 := (laid_met_of h).tail.tail
  have h2 := h1.tail.tail
  have hp : Lib.TabIs Tryz.prog W "internal/strconv.uint64pow10" .u64 powL := Lib.tabIs_of_head (zs := powL) (rest := [("unicode/utf8.acceptRanges", Rows.laid_unicode_utf8_acceptRanges), ("turnpike/octet.signs", Rows.laid_turnpike_octet_signs), ("unicode/utf8.first", Rows.laid_unicode_utf8_first)]) gPow gPowType Tryz.underlying143 Tryz.underlying126 cellsU64 cellsPow h1
  have ht : Lib.TabIs Tryz.prog W "turnpike/octet.signs" .u32 signTab := Lib.tabIs_of_head (zs := signTab) (rest := [("unicode/utf8.first", Rows.laid_unicode_utf8_first)]) gSigns gSignsType Tryz.underlying88 Tryz.underlying87 cellsU32 cellsSigns h2
  have hm := cell_of_shapedOpen_int (g := 2) (zero := #[.int .i64 0]) (t := 3) hs (of_decide_eq_true (by kernel_rfl)) (by kernel_rfl) rfl (by kernel_rfl) (by kernel_rfl) Tryz.underlying3
  have hc : ∀ k : Nat, k < 4 → W.cell? ⟨0, k, none⟩ = some (.int .u32 (signTab.getD k 0)) := fun k hk => ht.cell gSigns k hk
  have lt_of : ∀ (b k : Nat) (v : Value), W.cell? ⟨b, k, none⟩ = some v → b < W.heap.size := fun b k v h => by
    rcases Nat.lt_or_ge b W.heap.size with h1 | h1
    · exact h1
    · simp [World.cell?, Array.getElem?_eq_none h1] at h
  refine ⟨⟨?_, hc, hm⟩, powL_eq ▸ hp⟩
  have h0 := lt_of _ _ _ (hc 0 (by omega))
  obtain ⟨m, hm⟩ := hm
  have h1 := lt_of _ _ _ hm
  omega

/-- A world for the witness: the settled one, the listed variables holding what their initialisers lay. -/
def putCells (cs : Array Value) : Obj → Obj
  | .cells _ t frozen => .cells cs t frozen
  | o => o
def bytesOf (l : List Nat) : Array Value := (l.map fun (n : Nat) => Value.int .u8 (n : Int)).toArray
noncomputable def laidWorld (os : Os) : World :=
  { World.holding Tryz.prog os ⟨#[], #[], []⟩ with heap := ((((((World.holding Tryz.prog os ⟨#[], #[], []⟩).heap.modify 0 (putCells #[.int .u32 0, .int .u32 67071226, .int .u32 3355443198, .int .u32 1476395007])).modify 1 (putCells (powL.map fun z => Value.int .u64 z).toArray)).modify 3 (putCells (bytesOf Go.Pinned.utf8FirstZ))).modify 4 (putCells (bytesOf ([128, 191, 160, 191, 128, 159, 144, 191, 128, 143] ++ List.replicate 22 0)))).modify 5 (putCells (bytesOf [0, 1, 28, 2, 29, 14, 24, 3, 30, 22, 20, 15, 25, 17, 4, 8, 31, 27, 13, 23, 21, 19, 16, 7, 26, 12, 18, 6, 11, 5, 10, 9]))).modify 6 (putCells (bytesOf [0, 1, 56, 2, 57, 49, 28, 3, 61, 58, 42, 50, 38, 29, 17, 4, 62, 47, 59, 36, 45, 43, 51, 22, 53, 39, 33, 30, 24, 18, 12, 5, 63, 55, 48, 27, 60, 41, 37, 16, 46, 35, 44, 21, 52, 32, 23, 11, 54, 26, 40, 15, 34, 20, 31, 10, 25, 14, 19, 9, 13, 8, 7, 6])) }
theorem laid_met (os : Os) (args : Array Value) : laidMet Tryz.prog theLaid ((laidWorld os).forCall (fun _ _ => 0) ⟨#[], args, []⟩).memory :=
  laidMet_of_run' 8 (by kernel_rfl) (by kernel_rfl)

section
variable {H : Type} {enc : TypeId × Value → H} {P : Program}
/-- The last step of a row whose call leaves 'Below' behind. -/
theorem post_of_below {f : Func} {s : ChangeSpec} {apart fresh handsOn again : Bool} {W W' : World} {args : Array Value} {v : Value} {ds gs : List (DataW H)} {before pa pv : List MemPlace}
    (hW : DataW.Whole enc P f.params.toList s.vars apart W args.toList ds gs before)
    (hres : ∀ (b : Nat) (sp : Nat → Bool) (hd : Bool), DataW.TrodAll enc P W' b sp hd f.resultTypes.toList (v.resultList f.resultTypes.size) (s.fn H (ds ++ gs)).results [])
    (hargs : ∀ sp : Nat → Bool, (∀ p ∈ before, sp p.block = true) → DataW.TrodAll enc P W' 0 sp true f.params.toList args.toList (s.fn H (ds ++ gs)).args pa)
    (hvars : ∀ sp : Nat → Bool, (∀ p ∈ before, sp p.block = true) → DataW.TrodVars enc P W' sp s.vars (s.fn H (ds ++ gs)).vars pv)
    (hps : before = pa ++ pv) (hb : Below W.heap.size W W')
    (hok : ∀ (j : Nat) (t : TypeId) (r : Value), f.resultTypes[j]? = some t → (v.resultList f.resultTypes.size)[j]? = some r → Value.okWide P W' .any 0 t r) :
    s.post enc P f apart fresh handsOn again W args v W' := by
  have hlt : ∀ p ∈ before, p.block < W.heap.size := fun p hp => hW.lt p hp
  have hold : ∀ p ∈ before, (fun b => decide (b < W.heap.size)) p.block = true := fun p hp => by simpa using hlt p hp
  refine ⟨ds, gs, before, [], pa, pv, hW, hres _ _ _, hargs _ hold, hvars _ hold, World.keptBut_mono (fun p hp => ⟨hp, ?_⟩) (hb.frame (· ∈ before)), fun _ => ?_⟩
  · rw [hps, List.mem_append] at hp
    exact Or.inr hp
  · obtain ⟨_, _, _, _, _, hz, hn⟩ := hW
    refine ⟨hok, _, _, ([] ++ pa) ++ pv, ⟨[] ++ pa, pv, trodAll_append (hargs _ (fun _ _ => rfl)) (hres _ _ _), hvars _ (fun _ _ => rfl), rfl, ?_, ?_⟩, ?_⟩
    · intro b off hp
      have hin : MemPlace.cell b off ∈ before := by rw [hps]; simpa using hp
      rw [hb.frozen (hlt _ hin)]
      exact hz b off hin
    · intro ha
      have := hn ha
      rw [hps] at this
      simpa using this
    · intro p hp _
      rw [hps]
      simpa using hp
end
theorem laidOutSeat : laidOutB Tryz.prog = true := by kernel_rfl
/-- An argument reads behind the call as it read before. -/
theorem stays {H : Type} {enc : TypeId × Value → H} {t : TypeId} (hr : Tryz.prog.readableRec t = true) (hrow : decide (t < Tryz.prog.types.size) = true) {W W' : World} {v : Value} {d : DataW H} {ps : List MemPlace}
    (h : DataW.Trod enc Tryz.prog W 0 (fun _ => true) true t v d ps) (hb : Below W.heap.size W W') (hlt : ∀ x ∈ ps, x.block < W.heap.size) {sp : Nat → Bool} (hsp : ∀ x ∈ ps, sp x.block = true) :
    DataW.Trod enc Tryz.prog W' 0 sp true t v d ps :=
  WideElems.Trod_stays laidOutSeat hr (of_decide_eq_true hrow) h (fun x hx => hb.same (hlt x hx)) hsp
theorem weights_le {l : List Nat} (h : l.all (· ≤ reachBytes) = true) {x : Nat} (hx : x ∈ l) : x ≤ reachBytes := of_decide_eq_true (List.all_eq_true.1 h x hx)
theorem int_range {n : Int} (h : (Lit.int .i64 n).wf = true) : -9223372036854775808 ≤ n ∧ n ≤ 9223372036854775807 := bounds_i64 h

/- An argument that is a slice of structs of one-cell fields, opened to its cells. -/
section
variable {H : Type} {enc : TypeId × Value → H} {P : Program} {w : World} {base : Nat} {spare : Nat → Bool} {held : Bool}
theorem open_slice_fields {t e : TypeId} {fs : Array Field} {fuel : Nat} {cs : List Value} {x : DataW H × List MemPlace} (ht : P.underlying t = some (.slice e)) (he : P.underlying e = some (.struct fs))
    (hone : oneCellFields P fs = true) (hC : P.cellsOf e = fs.size) (h : DataW.trod enc P w base spare held fuel t cs = some x) :
    (cs = [.slice none 0 0] ∧ x = (.nil, [])) ∨
    ∃ (a : Addr) (len cap m : Nat) (D : Nat → DataW H) (Pl : Nat → List MemPlace), cs = [.slice (some a) len cap] ∧ base ≤ a.block ∧ len ≤ cap ∧ cap ≤ maxLen ∧ m = (if spare a.block then cap else len) ∧
      x = (.slice ((List.range len).map D) ((List.range (m - len)).map fun j => D (len + j)), MemPlace.row a (m * fs.size) ++ (List.range m).flatMap Pl) ∧
      ∀ i, i < m → ∃ (ys : List (DataW H × List MemPlace)) (n : Nat), D i = .agg (ys.map (·.1)) ∧ Pl i = ys.flatMap (·.2) ∧ ys.length = fs.size ∧
        ∀ (j : Nat) (f : Field), fs[j]? = some f → ∃ (v : Value) (y : DataW H × List MemPlace), w.cell? (a.add (i * fs.size + j)) = some v ∧ ys[j]? = some y ∧ DataW.trod enc P w base spare held n f.type [v] = some y := by
  rcases open_slice ht h with h0 | ⟨a, len, cap, m, n, D, Pl, hcs, hb, hl, hm, hmm, hx, hi⟩
  · exact .inl h0
  · refine .inr ⟨a, len, cap, m, D, Pl, hcs, hb, hl, hm, hmm, by rw [hC] at hx; exact hx, fun i him => ?_⟩
    obtain ⟨cs', hc, ht'⟩ := hi i him
    rw [hC] at hc
    obtain ⟨ys, n', hn', hy, hlen, hyl, hf⟩ := DataW.trod_struct he ht'
    obtain ⟨_, hcl, hat⟩ := World.cells?_some hc
    simp only [Prod.mk.injEq] at hy
    refine ⟨ys, n', hy.1, hy.2, hyl, fun j f hj => ?_⟩
    obtain ⟨ho, hk⟩ := hone_of hone j f hj
    have hjl : j < fs.size := (Array.getElem?_eq_some_iff.1 hj).1
    have hcell := hat j hjl
    have hv : cs'[j]? = some (cs'[j]'(by omega)) := List.getElem?_eq_getElem (by omega)
    have h1 := hf j f hj
    rw [ho, hk] at h1
    have hone' : (cs'.drop j).take 1 = [cs'[j]'(by omega)] := by
      rw [List.drop_eq_getElem_cons (by omega)]
      rfl
    rw [hone'] at h1
    have hys : ys[j]? = some (ys[j]'(by omega)) := List.getElem?_eq_getElem (by omega)
    refine ⟨_, _, ?_, hys, h1.trans hys⟩
    rw [← Go.Deep.add_add, hcell, hv]
end

/-- How much a list of fields weighs. -/
def bulkF (l : List (ByteArray × ByteArray)) : Nat := (l.map fun p => p.1.size + p.2.size + 3).sum
section
variable {H : Type} {enc : TypeId × Value → H} {W : World}
theorem cell_plain {w : World} {a : Addr} {v : Value} (h : w.cell? a = some v) : a.spot = none := World.cell?_spot h
theorem add_plain {a : Addr} {j : Nat} (h : (a.add j).spot = none) : a.add j = ⟨a.block, a.off + j, none⟩ := by
  unfold Addr.add at *
  split at h
  · rename_i h0
    simp only [h0]
    obtain ⟨b, o, s⟩ := a
    simp at h
    simp [h]
  · simp_all
theorem bulk_pairs : ∀ (l : List (ByteArray × ByteArray)), Rows.uptoBulkAll (l.map fun p => DataW.agg (H := H) [.lit (.string p.1.data.toList), .lit (.string p.2.data.toList)]) = bulkF l
  | [] => rfl
  | p :: l => by
    simp only [List.map_cons, Rows.uptoBulkAll, Rows.uptoBulk, bulk_pairs l, bulkF, List.sum_cons, size_eq]
    omega
set_option maxRecDepth 100000 in
theorem open_fields {base : Nat} {v : Value} {d : DataW H} {p : List MemPlace} (hv : Value.okWide Tryz.prog W .any base 22 v) (h : DataW.Trod enc Tryz.prog W 0 (fun _ => true) true 22 v d p) :
    ∃ (A : Option Addr) (c : Nat) (l : List (ByteArray × ByteArray)), v = .slice A l.length c ∧ Row W A (flat l) ∧ Wide l ∧ bulkF l + 1 ≤ Rows.uptoBulk d ∧ ((∀ x ∈ d.weights Tryz.prog 22, x ≤ reachBytes) → l.length ≤ 4398046510976) := by
  obtain ⟨a0, len0, cap0, rfl⟩ := okWide_slice Tryz.underlying22 hv
  obtain ⟨fuel, hf⟩ := h
  rcases open_slice_fields Tryz.underlying22 Tryz.underlying36 (by kernel_rfl) (by kernel_rfl) hf with ⟨hcs, hx⟩ | ⟨a, len, cap, m, D, Pl, hcs, _, hl, hm, hmm, hx, hcell⟩
  · simp [Value.cells] at hcs
    obtain ⟨rfl, rfl, rfl⟩ := hcs
    simp at hx
    obtain ⟨rfl, rfl⟩ := hx
    refine ⟨none, 0, [], rfl, Row.nil _ _, fun q hq => by simp at hq, ?_, fun _ => by simp⟩
    simp [bulkF, Rows.uptoBulk]
  · have hA : (Value.slice a0 len0 cap0) = .slice (some a) len cap := by simpa [Value.cells] using hcs
    injection hA with e0 e1 e2
    subst e0 e1 e2
    simp only [if_true] at hmm
    subst hmm
    have hall : ∀ i, i < m → ∃ q : ByteArray × ByteArray, D i = .agg [.lit (.string q.1.data.toList), .lit (.string q.2.data.toList)] ∧ W.cell? (a.add (i * 2)) = some (.string q.1) ∧ W.cell? (a.add (i * 2 + 1)) = some (.string q.2) ∧ q.1.size ≤ maxLen ∧ q.2.size ≤ maxLen := by
      intro i hi
      obtain ⟨ys, n, hD, _, hyl, hj⟩ := hcell i hi
      obtain ⟨v0, y0, hc0, hy0, ht0⟩ := hj 0 _ rfl
      obtain ⟨v1, y1, hc1, hy1, ht1⟩ := hj 1 _ rfl
      obtain ⟨s0, hs0, rfl, hl0⟩ := DataW.trod_string Tryz.underlying9 ht0
      obtain ⟨s1, hs1, rfl, hl1⟩ := DataW.trod_string Tryz.underlying9 ht1
      simp at hs0 hs1
      subst hs0 hs1
      have hys : ys = [(.lit (.string s0.data.toList), []), (.lit (.string s1.data.toList), [])] := by
        match ys, hyl with
        | [x0, x1], _ =>
          simp at hy0 hy1
          rw [hy0, hy1]
      refine ⟨(s0, s1), ?_, hc0, hc1, hl0, hl1⟩
      rw [hD, hys]
      rfl
    obtain ⟨Q, hQ⟩ := choose_lt (α := ByteArray × ByteArray) (p := fun i (q : ByteArray × ByteArray) => D i = .agg [.lit (.string q.1.data.toList), .lit (.string q.2.data.toList)] ∧ W.cell? (a.add (i * 2)) = some (.string q.1) ∧ W.cell? (a.add (i * 2 + 1)) = some (.string q.2) ∧ q.1.size ≤ maxLen ∧ q.2.size ≤ maxLen) hall
    have hget : ∀ (i : Nat) (q : ByteArray × ByteArray), ((List.range len0).map Q)[i]? = some q → i < len0 ∧ Q i = q := by
      intro i q hq
      have hi : i < len0 := by simpa using (List.getElem?_eq_some_iff.1 hq).1
      simp [hi] at hq
      exact ⟨hi, hq⟩
    refine ⟨some a, m, (List.range len0).map Q, by rw [List.length_map, List.length_range], fun hpos => ?_, fun q hq => ?_, ?_, fun hwt => ?_⟩
    · have h0 : 0 < len0 := by rw [flat_length] at hpos; simp at hpos; omega
      have hc0 := (hQ 0 (by omega)).2.1
      have hsp := add_plain (cell_plain hc0)
      have hblk : a.block < W.heap.size := by
        rcases Nat.lt_or_ge a.block W.heap.size with h1 | h1
        · exact h1
        · rw [hsp] at hc0
          simp [World.cell?, Array.getElem?_eq_none h1] at hc0
      refine ⟨a.block, a.off, ?_, hblk, fun j v hv => ?_⟩
      · have h1 := cell_plain hc0
        have e0 : a.add (0 * 2) = a := by simp [Addr.add]
        rw [e0] at h1
        obtain ⟨b, o, s⟩ := a
        simp at h1
        subst h1
        rfl
      · obtain ⟨i, x, y, hi, hj⟩ := flat_inv hv
        obtain ⟨hil, hq⟩ := hget _ _ hi
        obtain ⟨_, h1, h2, _⟩ := hQ i (by omega)
        rw [hq] at h1 h2
        rcases hj with ⟨rfl, rfl⟩ | ⟨rfl, rfl⟩
        · rw [← add_plain (cell_plain h1)]; exact h1
        · rw [← add_plain (cell_plain h2)]; exact h2
    · obtain ⟨i, hi, rfl⟩ := List.mem_map.1 hq
      have := hQ i (by have := List.mem_range.1 hi; omega)
      exact ⟨this.2.2.2.1, this.2.2.2.2⟩
    · have hd : d = .slice ((List.range len0).map D) ((List.range (m - len0)).map fun j => D (len0 + j)) := congrArg Prod.fst hx
      have e1 : (List.range len0).map D = ((List.range len0).map Q).map fun q => DataW.agg (H := H) [.lit (.string q.1.data.toList), .lit (.string q.2.data.toList)] := by
        rw [List.map_map]
        exact List.map_congr_left fun i hi => (hQ i (by have := List.mem_range.1 hi; omega)).1
      rw [hd]
      simp only [Rows.uptoBulk, e1, bulk_pairs]
      omega
    · have hd : d = .slice ((List.range len0).map D) ((List.range (m - len0)).map fun j => D (len0 + j)) := congrArg Prod.fst hx
      have hb := hwt ((((List.range len0).map D).length + ((List.range (m - len0)).map fun j => D (len0 + j)).length) * Tryz.prog.bytesOf 36) (by
        rw [hd]
        simp [DataW.weights, Tryz.underlying22])
      rw [show Tryz.prog.bytesOf 36 = 32 by kernel_rfl] at hb
      simp [reachBytes] at hb
      simp
      omega
end
end Go.Proofs.YtdipogmlpmkgcaaGreatDoor
