/-
 RtFrame, without what this claim does not reach.
-/
import Derived.Test.YtiohmnhbmmhnhaaGreatDoorZRtD
import Derived.Test.YtiohmnhbmmhnhaaGreatDoorCards
import Derived.Test.YtiohmnhbmmhnhaaGreatDoorTie
import Derived.ProofKit
import Derived.OpenShut
import Derived.Deep.DeepHandedRow
import Derived.Lib.LaidTab
import Derived.Stop.LaidErr
import Derived.ChangeSame
import Derived.Deep.Slices
import Derived.Deep.Fields
import Derived.WideKeyArgs
import Derived.Test.YtiohmnhbmmhnhaaGreatDoorZTgRs
import Derived.Test.YtiohmnhbmmhnhaaGreatDoorZTgF3
import Derived.SliceStrings
namespace Go.Proofs.YtiohmnhbmmhnhaaGreatDoor
open Go.ChangeShapes Go.WideShapes Go.ChangeAt Go.RowKit Go.Deep
open Go.ChangeMaps (open_string shut_string)
theorem ownKnobNone : ownKnob Tryz.prog.godebug = none := by kernel_rfl
theorem gSigns : Tryz.prog.globalNamed "turnpike/octet.signs" = some 1 := by kernel_rfl
theorem gSignsType : (Tryz.prog.globals[1]?).map (·.type) = some 236 := by kernel_rfl
theorem cellsSigns : Tryz.prog.cellsOf 236 = 4 := by kernel_rfl
theorem cellsU32 : Tryz.prog.cellsOf 228 = 1 := by kernel_rfl
def theLaid : List (String × DataW Unit) := [("turnpike/octet.signs", Rows.laid_turnpike_octet_signs)]
theorem no_handles : theLaid.filter (fun x => x.2.handleName?.isSome) = [] := by kernel_rfl
theorem laid_met_of {W : World} (h : laidMetH Tryz.prog theLaid W) : laidMet Tryz.prog theLaid W := by
 unfold laidMetH at h
 rw [no_handles] at h
 exact h
theorem glob_of1 {W : World} {rest : List (String × DataW Unit)} (h1 : laidMet Tryz.prog (("turnpike/octet.signs", Rows.laid_turnpike_octet_signs) :: rest) W) (hs : W.ShapedOpen Tryz.prog) : GlobR W := by
 have ht : Lib.TabIs Tryz.prog W "turnpike/octet.signs" .u32 signTab := Lib.tabIs_of_head (zs := signTab) (rest := rest) gSigns gSignsType Tryz.underlying236 Tryz.underlying228 cellsU32 cellsSigns h1
 have hm := cell_of_shapedOpen_int (g := 0) (zero := #[.int .i64 0]) (t := 3) hs (of_decide_eq_true (by kernel_rfl)) (by kernel_rfl) rfl (by kernel_rfl) (by kernel_rfl) Tryz.underlying3
 have hc : ∀ k : Nat, k < 4 → W.cell? ⟨1, k, none⟩ = some (.int .u32 (signTab.getD k 0)) := fun k hk => ht.cell gSigns k hk
 have lt_of : ∀ (b k : Nat) (v : Value), W.cell? ⟨b, k, none⟩ = some v → b < W.heap.size := fun b k v h => by
  rcases Nat.lt_or_ge b W.heap.size with h1 | h1
  ·exact h1
  ·simp [World.cell?, Array.getElem?_eq_none h1] at h
 have h0 := lt_of _ _ _ (hc 0 (by omega))
 refine ⟨⟨?_, hm⟩, hc⟩
 obtain ⟨m, hm⟩ := hm
 have h1 := lt_of _ _ _ hm
 omega
theorem glob_of {W : World} (h : laidMetH Tryz.prog theLaid W) (hs : W.ShapedOpen Tryz.prog) : GlobR W := glob_of1 (laid_met_of h) hs
def putCells (cs : Array Value) : Obj → Obj
 | .cells _ t frozen => .cells cs t frozen
 | o => o
noncomputable def laidWorld (os : Os) : World :=
 { World.holding Tryz.prog os ⟨#[], #[], []⟩ with heap := (World.holding Tryz.prog os ⟨#[], #[], []⟩).heap.modify 1 (putCells #[.int .u32 0, .int .u32 67071226, .int .u32 3355443198, .int .u32 1476395007]) }
theorem laid_met (os : Os) (args : Array Value) : laidMet Tryz.prog theLaid ((laidWorld os).forCall (fun _ _ => 0) ⟨#[], args, []⟩).memory :=
 laidMet_of_run' 8 (by kernel_rfl) (by kernel_rfl)
section
variable {H : Type} {enc : TypeId × Value → H} {P : Program}
theorem post_of_below {f : Func} {s : ChangeSpec} {apart fresh handsOn again : Bool} {W W' : World} {args : Array Value} {v : Value} {ds gs : List (DataW H)} {before pa pv : List MemPlace}
  (hW : DataW.Whole enc P f.params.toList s.vars apart W args.toList ds gs before)
  (hres : ∀ (b : Nat) (sp : Nat → Bool) (hd : Bool), DataW.TrodAll enc P W' b sp hd f.resultTypes.toList (v.resultList f.resultTypes.size) (s.fn H (ds ++ gs)).results [])
  (hargs : ∀ sp : Nat → Bool, (∀ p ∈ before, sp p.block = true) → DataW.TrodAll enc P W' 0 sp true f.params.toList args.toList (s.fn H (ds ++ gs)).args pa)
  (hvars : ∀ sp : Nat → Bool, (∀ p ∈ before, sp p.block = true) → DataW.TrodVars enc P W' sp s.vars (s.fn H (ds ++ gs)).vars pv)
  (hps : before = pa ++ pv) (hb : Below W.heap.size W W')
  (hok : ∀ (j : Nat) (t : TypeId) (r : Value), f.resultTypes[j]? = some t → (v.resultList f.resultTypes.size)[j]? = some r → Value.okWide P W' .any 0 t r) :
  s.post enc P f apart fresh handsOn again W args v W' := by
 have hlt : ∀ p ∈ before, p.block < W.heap.size := fun p hp => hW.lt p hp
 have hold : ∀ p ∈ before, (fun b => decide (b < W.heap.size)) p.block = true := fun p hp => by simpa using hlt p hp
 refine ⟨ds, gs, before, [], pa, pv, hW, hres _ _ _, hargs _ hold, hvars _ hold, World.keptBut_mono (fun p hp => ⟨hp, ?_⟩) (hb.frame (· ∈ before)), fun _ => ?_⟩
 ·rw [hps, List.mem_append] at hp
  exact Or.inr hp
 ·obtain ⟨_, _, _, _, _, hz, hn⟩ := hW
  refine ⟨hok, _, _, ([] ++ pa) ++ pv, ⟨[] ++ pa, pv, trodAll_append (hargs _ (fun _ _ => rfl)) (hres _ _ _), hvars _ (fun _ _ => rfl), rfl, ?_, ?_⟩, ?_⟩
  ·intro b off hp
   have hin : MemPlace.cell b off ∈ before := by rw [hps]; simpa using hp
   rw [hb.frozen (hlt _ hin)]
   exact hz b off hin
  ·intro ha
   have := hn ha
   rw [hps] at this
   simpa using this
  ·intro p hp _
   rw [hps]
   simpa using hp
end
end Go.Proofs.YtiohmnhbmmhnhaaGreatDoor
namespace Go.Proofs.YtiohmnhbmmhnhaaGreatDoor
open Go.ChangeShapes Go.WideShapes Go.ChangeAt Go.RowKit Go.Deep
open Go.ChangeMaps (open_string shut_string)
theorem tg_laidOut : laidOutB Tryz.prog = true := by kernel_rfl
theorem tg_stays {H : Type} {enc : TypeId × Value → H} {t : TypeId} (hr : Tryz.prog.readableRec t = true) (hrow : decide (t < Tryz.prog.types.size) = true) {W W' : World} {v : Value} {d : DataW H} {ps : List MemPlace}
  (h : DataW.Trod enc Tryz.prog W 0 (fun _ => true) true t v d ps) (hb : Below W.heap.size W W') (hlt : ∀ x ∈ ps, x.block < W.heap.size) {sp : Nat → Bool} (hsp : ∀ x ∈ ps, sp x.block = true) :
  DataW.Trod enc Tryz.prog W' 0 sp true t v d ps :=
 WideElems.Trod_stays tg_laidOut hr (of_decide_eq_true hrow) h (fun x hx => hb.same (hlt x hx)) hsp
theorem spot_plain {w : World} {a : Addr} {v : Value} (h : w.cell? a = some v) : a.spot = none := World.cell?_spot h
theorem spot_add {a : Addr} {j : Nat} (h : (a.add j).spot = none) : a.add j = ⟨a.block, a.off + j, none⟩ := by
 unfold Addr.add at *
 split at h
 ·rename_i h0
  simp only [h0]
  obtain ⟨b, o, s⟩ := a
  simp at h
  simp [h]
 ·simp_all
theorem row_of_cells {W : World} {a : Addr} {xs : List Value} (h : ∀ i v, xs[i]? = some v → W.cell? (a.add i) = some v) : Row W (some a) xs := fun hpos => by
 obtain ⟨x0, hx0⟩ := some_of_lt hpos
 have hc0 := h 0 x0 hx0
 have hsp := spot_add (spot_plain hc0)
 have hblk : a.block < W.heap.size := by
  rcases Nat.lt_or_ge a.block W.heap.size with h1 | h1
  ·exact h1
  ·rw [hsp] at hc0
   simp [World.cell?, Array.getElem?_eq_none h1] at hc0
 refine ⟨a.block, a.off, ?_, hblk, fun j v hv => ?_⟩
 ·have h1 := spot_plain hc0
  have e0 : a.add 0 = a := by simp [Addr.add]
  rw [e0] at h1
  obtain ⟨b, o, s⟩ := a
  simp at h1
  subst h1
  rfl
 ·have := h j v hv
  rw [← spot_add (spot_plain this)]
  exact this
theorem bulk_sum {H : Type} (l : List ByteArray) : Rows.uptoBulkAll (l.map fun s => DataW.lit (H := H) (.string s.data.toList)) = (l.map fun m => m.size + 1).sum := by
 induction l with
 | nil => rfl
 | cons x l ih =>
  simp only [List.map_cons, Rows.uptoBulkAll, Rows.uptoBulk, ih, List.sum_cons, size_eq]
theorem open_texts1 {H : Type} {enc : TypeId × Value → H} {W : World} {fuel : Nat} {cs : List Value} {x : DataW H × List MemPlace} (hf : DataW.trod enc Tryz.prog W 0 (fun _ => true) true fuel 33 cs = some x) :
  ∃ (A : Option Addr) (c : Nat) (l : List ByteArray), cs = [.slice A l.length c] ∧ Row W A (l.map .string) ∧ l.length ≤ c ∧ (l.map fun m => m.size + 1).sum + 1 ≤ Rows.uptoBulk x.1 := by
 rcases open_strings Tryz.underlying33 Tryz.underlying9 (by kernel_rfl) hf with ⟨hcs, hx⟩ | ⟨a, len, cap, ss, hcs, _, hl, hm, hss, hx, hcell, _⟩
 ·subst hcs
  subst hx
  exact ⟨none, 0, [], rfl, Row.nil _ _, Nat.le_refl _, by simp [Rows.uptoBulk]⟩
 ·subst hcs
  simp only [if_true] at hss
  have hlen : (ss.take len).length = len := by rw [List.length_take]; omega
  refine ⟨some a, cap, ss.take len, by rw [hlen], row_of_cells fun i v hv => ?_, by rw [hlen]; exact hl, ?_⟩
  ·rw [List.getElem?_map, Option.map_eq_some_iff] at hv
   obtain ⟨x, hx1, rfl⟩ := hv
   have hi : i < ss.length := by
    have := lt_of_some hx1
    rw [List.length_take] at this
    omega
   rw [hcell i hi]
   have hx2 : ss[i]? = some x := by
    rw [List.getElem?_take] at hx1
    split at hx1
    ·exact hx1
    ·cases hx1
   rw [List.getD_eq_getElem?_getD, hx2]
   rfl
  ·rw [hx]
   simp only [Rows.uptoBulk]
   have e : ∀ m : List ByteArray, strs (H := H) m = m.map fun s => DataW.lit (H := H) (.string s.data.toList) := fun _ => rfl
   rw [e, bulk_sum]
   omega
theorem bulk_pos {H : Type} (d : DataW H) : 1 ≤ Rows.uptoBulk d := by
 cases d with
 | lit l => cases l <;> simp [Rows.uptoBulk]
 | _ => simp [Rows.uptoBulk]
set_option maxRecDepth 100000 in
theorem open_route {H : Type} {enc : TypeId × Value → H} {W : World} {fuel : Nat} {cs : List Value} {x : DataW H × List MemPlace} (h : DataW.trod enc Tryz.prog W 0 (fun _ => true) true fuel 38 cs = some x) :
  ∃ r : Ra, cs = raV r ∧ MOne W r.1 ∧ bulk1 r.1.2 ≤ Rows.uptoBulk x.1 := by
 obtain ⟨ys, n, hn, hy, hlen, hyl, hfs⟩ := DataW.trod_struct Tryz.underlying38 h
 have h9 : Tryz.prog.cellsOf 38 = 9 := by kernel_rfl
 have c0 : Tryz.prog.cellsOf 33 = 1 := by kernel_rfl
 have c1 : Tryz.prog.cellsOf 9 = 1 := by kernel_rfl
 have c2 : Tryz.prog.cellsOf 34 = 1 := by kernel_rfl
 have c3 : Tryz.prog.cellsOf 36 = 6 := by kernel_rfl
 rw [h9] at hlen
 match cs, hlen with
 | [x0, x1, x2, x3, x4, x5, x6, x7, x8], _ =>
 have hy4 : ys.length = 4 := hyl
 match ys, hy4 with
 | [y0, y1, y2, y3], _ =>
 have g0 : DataW.trod enc Tryz.prog W 0 (fun _ => true) true n 33 [x0] = some y0 := by
  have h0 : DataW.trod enc Tryz.prog W 0 (fun _ => true) true n 33 (List.take (Tryz.prog.cellsOf 33) (List.drop 0 [x0, x1, x2, x3, x4, x5, x6, x7, x8])) = some y0 := hfs 0 _ rfl
  rw [c0] at h0
  exact h0
 have g1 : DataW.trod enc Tryz.prog W 0 (fun _ => true) true n 9 [x1] = some y1 := by
  have h0 : DataW.trod enc Tryz.prog W 0 (fun _ => true) true n 9 (List.take (Tryz.prog.cellsOf 9) (List.drop 1 [x0, x1, x2, x3, x4, x5, x6, x7, x8])) = some y1 := hfs 1 _ rfl
  rw [c1] at h0
  exact h0
 have g2 : DataW.trod enc Tryz.prog W 0 (fun _ => true) true n 34 [x2] = some y2 := by
  have h0 : DataW.trod enc Tryz.prog W 0 (fun _ => true) true n 34 (List.take (Tryz.prog.cellsOf 34) (List.drop 2 [x0, x1, x2, x3, x4, x5, x6, x7, x8])) = some y2 := hfs 2 _ rfl
  rw [c2] at h0
  exact h0
 have g3 : DataW.trod enc Tryz.prog W 0 (fun _ => true) true n 36 [x3, x4, x5, x6, x7, x8] = some y3 := by
  have h0 : DataW.trod enc Tryz.prog W 0 (fun _ => true) true n 36 (List.take (Tryz.prog.cellsOf 36) (List.drop 3 [x0, x1, x2, x3, x4, x5, x6, x7, x8])) = some y3 := hfs 3 _ rfl
  rw [c3] at h0
  exact h0
 obtain ⟨A, c, l, e0, hr, hc, hb⟩ := open_texts1 g0
 obtain ⟨s1, e1, r1, _⟩ := DataW.trod_string Tryz.underlying9 g1
 obtain ⟨zs, k, hk, hz, hzl, hzn, hgs⟩ := DataW.trod_struct Tryz.underlying36 g3
 have hone : oneCellFields Tryz.prog (Tryz.prog.fieldsOf 36) = true := by kernel_rfl
 simp only [Program.fieldsOf, Tryz.underlying36] at hone
 have hz6 : zs.length = 6 := hzn
 match zs, hz6 with
 | [z0, z1, z2, z3, z4, z5], _ =>
 have k0 := hgs 0 _ rfl
 have k1 := hgs 1 _ rfl
 have k2 := hgs 2 _ rfl
 have k3 := hgs 3 _ rfl
 have k4 := hgs 4 _ rfl
 have k5 := hgs 5 _ rfl
 rw [(hone_of hone 0 _ rfl).1, (hone_of hone 0 _ rfl).2] at k0
 rw [(hone_of hone 1 _ rfl).1, (hone_of hone 1 _ rfl).2] at k1
 rw [(hone_of hone 2 _ rfl).1, (hone_of hone 2 _ rfl).2] at k2
 rw [(hone_of hone 3 _ rfl).1, (hone_of hone 3 _ rfl).2] at k3
 rw [(hone_of hone 4 _ rfl).1, (hone_of hone 4 _ rfl).2] at k4
 rw [(hone_of hone 5 _ rfl).1, (hone_of hone 5 _ rfl).2] at k5
 obtain ⟨n0, f0, _, _⟩ := DataW.trod_int Tryz.underlying3 k0
 obtain ⟨n1, f1, _, _⟩ := DataW.trod_string Tryz.underlying9 k1
 obtain ⟨n2, f2, _, _⟩ := DataW.trod_string Tryz.underlying9 k2
 obtain ⟨n3, f3, _, _⟩ := DataW.trod_string Tryz.underlying9 k3
 obtain ⟨n4, f4, _, _⟩ := DataW.trod_int Tryz.underlying3 k4
 obtain ⟨n5, f5, _, _⟩ := DataW.trod_int Tryz.underlying3 k5
 simp at e0 e1 f0 f1 f2 f3 f4 f5
 subst e0 e1 f0 f1 f2 f3 f4 f5
 have hbk : ∀ v, (∃ A n c, v = Value.slice A n c) → ∃ r : Ra, [Value.slice A l.length c, .string s1, v, .int .i64 n0, .string n1, .string n2, .string n3, .int .i64 n4, .int .i64 n5] = raV r ∧ MOne W r.1 ∧ bulk1 r.1.2 ≤ Rows.uptoBulk x.1 := by
  rintro _ ⟨B, m, d, rfl⟩
  refine ⟨(((A, c), l, s1), ⟨B, m, d, n0, n1, n2, n3, n4, n5⟩), rfl, ⟨hr, hc⟩, ?_⟩
  have p2 := bulk_pos y2.1
  have p3 := bulk_pos y3.1
  rw [hy, r1]
  simp only [List.map_cons, List.map_nil, Rows.uptoBulk, Rows.uptoBulkAll, bulk1, size_eq]
  omega
 rcases open_slice Tryz.underlying34 g2 with ⟨e2, _⟩ | ⟨a, len, cap, _, _, _, _, e2, _⟩
 ·injection e2 with e2
  subst e2
  exact hbk _ ⟨_, _, _, rfl⟩
 ·injection e2 with e2
  subst e2
  exact hbk _ ⟨_, _, _, rfl⟩
theorem flatA_inv {l : List Ra} {j : Nat} {v : Value} (h : (flatA l)[j]? = some v) : ∃ (i k : Nat) (x : Ra), l[i]? = some x ∧ k < 9 ∧ j = i * 9 + k ∧ (raV x)[k]? = some v := by
 induction l generalizing j with
 | nil => simp [flatA] at h
 | cons p l ih =>
  have e : flatA (p :: l) = raV p ++ flatA l := rfl
  have hl : (raV p).length = 9 := rfl
  rw [e] at h
  rcases Nat.lt_or_ge j 9 with hj | hj
  ·rw [List.getElem?_append_left (by omega)] at h
   exact ⟨0, j, p, rfl, hj, by omega, h⟩
  ·rw [List.getElem?_append_right (by omega), hl] at h
   obtain ⟨i, k, x, h1, h2, h3, h4⟩ := ih h
   exact ⟨i + 1, k, x, by simpa using h1, h2, by omega, h4⟩
theorem bulk_routes {H : Type} {f : Nat → DataW H} {Q : Nat → Ra} : ∀ (l : List Nat), (∀ i ∈ l, bulk1 (Q i).1.2 ≤ Rows.uptoBulk (f i)) → bulkRt (plA (l.map Q)) ≤ Rows.uptoBulkAll (l.map f)
 | [], _ => Nat.zero_le _
 | i :: l, h => by
  have h1 := bulk_routes l fun j hj => h j (List.mem_cons_of_mem _ hj)
  have h2 := h i List.mem_cons_self
  simp only [List.map_cons, plA, bulkRt_cons, Rows.uptoBulkAll] at h1 ⊢
  omega
instance : Inhabited Ra := ⟨(((none, 0), [], ⟨#[]⟩), ⟨none, 0, 0, 0, ⟨#[]⟩, ⟨#[]⟩, ⟨#[]⟩, 0, 0⟩)⟩
set_option maxRecDepth 100000 in
theorem open_routes {H : Type} {enc : TypeId × Value → H} {W : World} {base : Nat} {v : Value} {d : DataW H} {p : List MemPlace} (hv : Value.okWide Tryz.prog W .any base 22 v) (h : DataW.Trod enc Tryz.prog W 0 (fun _ => true) true 22 v d p) :
  ∃ (A : Option Addr) (c : Nat) (l : List Ra), v = .slice A l.length c ∧ Row W A (flatA l) ∧ AOk W l ∧ bulkRt (plA l) + 1 ≤ Rows.uptoBulk d := by
 obtain ⟨a0, len0, cap0, rfl⟩ := okWide_slice Tryz.underlying22 hv
 obtain ⟨fuel, hf⟩ := h
 have h9 : Tryz.prog.cellsOf 38 = 9 := by kernel_rfl
 rcases open_slice Tryz.underlying22 hf with ⟨hcs, hx⟩ | ⟨a, len, cap, m, n, D, Pl, hcs, _, hl, hm, hmm, hx, hi⟩
 ·simp [Value.cells] at hcs
  obtain ⟨rfl, rfl, rfl⟩ := hcs
  simp at hx
  obtain ⟨rfl, rfl⟩ := hx
  exact ⟨none, 0, [], rfl, Row.nil _ _, (show AOk W [] from fun x hx => by cases hx), Nat.le_refl _⟩
 ·have hA : (Value.slice a0 len0 cap0) = .slice (some a) len cap := by simpa [Value.cells] using hcs
  injection hA with e0 e1 e2
  subst e0 e1 e2
  simp only [if_true] at hmm
  subst hmm
  rw [h9] at hi
  have hall : ∀ i, i < m → ∃ r : Ra, (∀ k v, k < 9 → (raV r)[k]? = some v → W.cell? (a.add (i * 9 + k)) = some v) ∧ MOne W r.1 ∧ bulk1 r.1.2 ≤ Rows.uptoBulk (D i) := by
   intro i him
   obtain ⟨cs', hc, ht⟩ := hi i him
   obtain ⟨r, rfl, hm1, hb1⟩ := open_route ht
   obtain ⟨_, hcl, hat⟩ := World.cells?_some hc
   refine ⟨r, fun k v hk hv => ?_, hm1, hb1⟩
   rw [← Go.Deep.add_add, hat k hk, hv]
  obtain ⟨Q, hQ⟩ := choose_lt (α := Ra) (p := fun i (r : Ra) => (∀ k v, k < 9 → (raV r)[k]? = some v → W.cell? (a.add (i * 9 + k)) = some v) ∧ MOne W r.1 ∧ bulk1 r.1.2 ≤ Rows.uptoBulk (D i)) hall
  have hget : ∀ (i : Nat) (q : Ra), ((List.range len0).map Q)[i]? = some q → i < len0 ∧ Q i = q := by
   intro i q hq
   have hi : i < len0 := by simpa using (List.getElem?_eq_some_iff.1 hq).1
   simp [hi] at hq
   exact ⟨hi, hq⟩
  refine ⟨some a, m, (List.range len0).map Q, by rw [List.length_map, List.length_range], row_of_cells fun j v hv => ?_, fun x hx => ?_, ?_⟩
  ·obtain ⟨i, k, x, hi, hk, rfl, hkv⟩ := flatA_inv hv
   obtain ⟨hil, hq⟩ := hget _ _ hi
   subst hq
   exact (hQ i (by omega)).1 k v hk hkv
  ·obtain ⟨i, hi, rfl⟩ := List.mem_map.1 hx
   have := List.mem_range.1 hi
   exact (hQ i (by omega)).2.1
  ·have hd : d = .slice ((List.range len0).map D) ((List.range (m - len0)).map fun j => D (len0 + j)) := congrArg Prod.fst hx
   have hb := bulk_routes (f := D) (Q := Q) (List.range len0) fun i hi => (hQ i (by have := List.mem_range.1 hi; omega)).2.2
   rw [hd]
   simp only [Rows.uptoBulk]
   omega
abbrev Ask := ByteArray × ByteArray
def askV (x : Ask) : Value := .agg #[.string x.1, .string x.2]
set_option maxRecDepth 100000 in
theorem open_ask1 {H : Type} {enc : TypeId × Value → H} {W : World} {fuel : Nat} {cs : List Value} {x : DataW H × List MemPlace} (h : DataW.trod enc Tryz.prog W 0 (fun _ => true) true fuel 42 cs = some x) :
  ∃ q : Ask, cs = [.string q.1, .string q.2] ∧ q.1.size + q.2.size + 3 ≤ Rows.uptoBulk x.1 := by
 obtain ⟨ys, n, hn, hy, hlen, hyl, hfs⟩ := DataW.trod_struct Tryz.underlying42 h
 have h2 : Tryz.prog.cellsOf 42 = 2 := by kernel_rfl
 have c1 : Tryz.prog.cellsOf 9 = 1 := by kernel_rfl
 rw [h2] at hlen
 match cs, hlen with
 | [x0, x1], _ =>
 have hy2 : ys.length = 2 := hyl
 match ys, hy2 with
 | [y0, y1], _ =>
 have g0 : DataW.trod enc Tryz.prog W 0 (fun _ => true) true n 9 [x0] = some y0 := by
  have h0 : DataW.trod enc Tryz.prog W 0 (fun _ => true) true n 9 (List.take (Tryz.prog.cellsOf 9) (List.drop 0 [x0, x1])) = some y0 := hfs 0 _ rfl
  rw [c1] at h0
  exact h0
 have g1 : DataW.trod enc Tryz.prog W 0 (fun _ => true) true n 9 [x1] = some y1 := by
  have h0 : DataW.trod enc Tryz.prog W 0 (fun _ => true) true n 9 (List.take (Tryz.prog.cellsOf 9) (List.drop 1 [x0, x1])) = some y1 := hfs 1 _ rfl
  rw [c1] at h0
  exact h0
 obtain ⟨s0, e0, r0, _⟩ := DataW.trod_string Tryz.underlying9 g0
 obtain ⟨s1, e1, r1, _⟩ := DataW.trod_string Tryz.underlying9 g1
 simp at e0 e1
 subst e0 e1
 refine ⟨(s0, s1), rfl, ?_⟩
 rw [hy, r0, r1]
 simp only [List.map_cons, List.map_nil, Rows.uptoBulk, Rows.uptoBulkAll, size_eq]
 omega
set_option maxRecDepth 100000 in
theorem open_ask {H : Type} {enc : TypeId × Value → H} {W : World} {base : Nat} {v : Value} {d : DataW H} {p : List MemPlace} (hv : Value.okWide Tryz.prog W .any base 42 v) (h : DataW.Trod enc Tryz.prog W 0 (fun _ => true) true 42 v d p) :
  ∃ q : Ask, v = askV q ∧ q.1.size + q.2.size + 3 ≤ Rows.uptoBulk d := by
 obtain ⟨cs, rfl, hcs⟩ := okWide_struct Tryz.underlying42 hv
 obtain ⟨fuel, hf⟩ := h
 obtain ⟨q, hq, hb⟩ := open_ask1 hf
 refine ⟨q, ?_, hb⟩
 have : cs.toList = [.string q.1, .string q.2] := hq
 unfold askV
 rw [← this]
end Go.Proofs.YtiohmnhbmmhnhaaGreatDoor
namespace Go.Proofs.YtiohmnhbmmhnhaaGreatDoor
open Go.ChangeShapes Go.WideShapes Go.ChangeAt Go.RowKit Go.Deep
def theLaid3 : List (String × DataW Unit) := [("unicode/utf8.acceptRanges", Rows.laid_unicode_utf8_acceptRanges), ("turnpike/octet.signs", Rows.laid_turnpike_octet_signs), ("unicode/utf8.first", Rows.laid_unicode_utf8_first)]
theorem no_handles3 : theLaid3.filter (fun x => x.2.handleName?.isSome) = [] := by kernel_rfl
theorem laid_met_of3 {W : World} (h : laidMetH Tryz.prog theLaid3 W) : laidMet Tryz.prog theLaid3 W := by
 unfold laidMetH at h
 rw [no_handles3] at h
 exact h
theorem glob_of3 {W : World} (h : laidMetH Tryz.prog theLaid3 W) (hs : W.ShapedOpen Tryz.prog) : GlobR W := glob_of1 (laid_met_of3 h).tail hs
def bytesOf (l : List Nat) : Array Value := (l.map fun (n : Nat) => Value.int .u8 (n : Int)).toArray
noncomputable def laidWorld3 (os : Os) : World :=
 { World.holding Tryz.prog os ⟨#[], #[], []⟩ with heap := (((World.holding Tryz.prog os ⟨#[], #[], []⟩).heap.modify 1 (putCells #[.int .u32 0, .int .u32 67071226, .int .u32 3355443198, .int .u32 1476395007])).modify 2 (putCells (bytesOf Go.Pinned.utf8FirstZ))).modify 3 (putCells (bytesOf ([128, 191, 160, 191, 128, 159, 144, 191, 128, 143] ++ List.replicate 22 0))) }
theorem laid_met3 (os : Os) (args : Array Value) : laidMet Tryz.prog theLaid3 ((laidWorld3 os).forCall (fun _ _ => 0) ⟨#[], args, []⟩).memory :=
 laidMet_of_run' 8 (by kernel_rfl) (by kernel_rfl)
end Go.Proofs.YtiohmnhbmmhnhaaGreatDoor
namespace Go.Proofs.YtiohmnhbmmhnhaaGreatDoor
open Go.ChangeShapes Go.WideShapes Go.ChangeAt Go.RowKit Go.Deep
open Go.ChangeMaps (open_string shut_string)
section
variable {H : Type} {enc : TypeId × Value → H} {P : Program} {w : World} {base : Nat} {spare : Nat → Bool} {held : Bool}
theorem open_slice_parts {t e : TypeId} {fs : Array Field} {fuel : Nat} {cs : List Value} {x : DataW H × List MemPlace} (ht : P.underlying t = some (.slice e)) (he : P.underlying e = some (.struct fs))
  (hone : oneCellFields P fs = true) (hC : P.cellsOf e = fs.size) (h : DataW.trod enc P w base spare held fuel t cs = some x) :
  (cs = [.slice none 0 0] ∧ x = (.nil, [])) ∨
  ∃ (a : Addr) (len cap m : Nat) (D : Nat → DataW H) (Pl : Nat → List MemPlace), cs = [.slice (some a) len cap] ∧ base ≤ a.block ∧ len ≤ cap ∧ cap ≤ maxLen ∧ m = (if spare a.block then cap else len) ∧
   x = (.slice ((List.range len).map D) ((List.range (m - len)).map fun j => D (len + j)), MemPlace.row a (m * fs.size) ++ (List.range m).flatMap Pl) ∧
   ∀ i, i < m → ∃ (ys : List (DataW H × List MemPlace)) (n : Nat), D i = .agg (ys.map (·.1)) ∧ Pl i = ys.flatMap (·.2) ∧ ys.length = fs.size ∧
    ∀ (j : Nat) (f : Field), fs[j]? = some f → ∃ (v : Value) (y : DataW H × List MemPlace), w.cell? (a.add (i * fs.size + j)) = some v ∧ ys[j]? = some y ∧ DataW.trod enc P w base spare held n f.type [v] = some y := by
 rcases open_slice ht h with h0 | ⟨a, len, cap, m, n, D, Pl, hcs, hb, hl, hm, hmm, hx, hi⟩
 ·exact .inl h0
 ·refine .inr ⟨a, len, cap, m, D, Pl, hcs, hb, hl, hm, hmm, by rw [hC] at hx; exact hx, fun i him => ?_⟩
  obtain ⟨cs', hc, ht'⟩ := hi i him
  rw [hC] at hc
  obtain ⟨ys, n', hn', hy, hlen, hyl, hf⟩ := DataW.trod_struct he ht'
  obtain ⟨_, hcl, hat⟩ := World.cells?_some hc
  simp only [Prod.mk.injEq] at hy
  refine ⟨ys, n', hy.1, hy.2, hyl, fun j f hj => ?_⟩
  obtain ⟨ho, hk⟩ := hone_of hone j f hj
  have hjl : j < fs.size := (Array.getElem?_eq_some_iff.1 hj).1
  have hcell := hat j hjl
  have hv : cs'[j]? = some (cs'[j]'(by omega)) := List.getElem?_eq_getElem (by omega)
  have h1 := hf j f hj
  rw [ho, hk] at h1
  have hone' : (cs'.drop j).take 1 = [cs'[j]'(by omega)] := by
   rw [List.drop_eq_getElem_cons (by omega)]
   rfl
  rw [hone'] at h1
  have hys : ys[j]? = some (ys[j]'(by omega)) := List.getElem?_eq_getElem (by omega)
  refine ⟨_, _, ?_, hys, h1.trans hys⟩
  rw [← Go.Deep.add_add, hcell, hv]
end
def bulkP (l : List Pr) : Nat := (l.map fun p => p.1.size + p.2.1.size + 4).sum
theorem bulk_trips {H : Type} : ∀ l : List Pr, Rows.uptoBulkAll (l.map fun p => DataW.agg (H := H) [.lit (.string p.1.data.toList), .lit (.string p.2.1.data.toList), .lit (.bool p.2.2)]) = bulkP l
 | [] => rfl
 | p :: l => by
  simp only [List.map_cons, Rows.uptoBulkAll, Rows.uptoBulk, bulk_trips l, bulkP, List.sum_cons, size_eq]
  omega
theorem flat3_inv {l : List Pr} {j : Nat} {v : Value} (h : (flat3 l)[j]? = some v) : ∃ (i : Nat) (x y : ByteArray) (c : Bool), l[i]? = some (x, y, c) ∧ ((j = i * 3 ∧ v = .string x) ∨ (j = i * 3 + 1 ∧ v = .string y) ∨ (j = i * 3 + 2 ∧ v = .bool c)) := by
 induction l generalizing j with
 | nil => simp [flat3] at h
 | cons p l ih =>
  obtain ⟨x, y, c⟩ := p
  have e : flat3 ((x, y, c) :: l) = .string x :: .string y :: .bool c :: flat3 l := rfl
  rw [e] at h
  match j with
  | 0 => exact ⟨0, x, y, c, rfl, .inl ⟨rfl, by simpa using h.symm⟩⟩
  | 1 => exact ⟨0, x, y, c, rfl, .inr (.inl ⟨rfl, by simpa using h.symm⟩)⟩
  | 2 => exact ⟨0, x, y, c, rfl, .inr (.inr ⟨rfl, by simpa using h.symm⟩)⟩
  | j + 3 =>
   obtain ⟨i, x', y', c', hi, hj⟩ := ih (j := j) (by simpa using h)
   refine ⟨i + 1, x', y', c', by simpa using hi, ?_⟩
   rcases hj with ⟨h1, h2⟩ | ⟨h1, h2⟩ | ⟨h1, h2⟩
   ·exact .inl ⟨by omega, h2⟩
   ·exact .inr (.inl ⟨by omega, h2⟩)
   ·exact .inr (.inr ⟨by omega, h2⟩)
set_option maxRecDepth 100000 in
theorem open_params {H : Type} {enc : TypeId × Value → H} {W : World} {base : Nat} {v : Value} {d : DataW H} {p : List MemPlace} (hv : Value.okWide Tryz.prog W .any base 45 v) (h : DataW.Trod enc Tryz.prog W 0 (fun _ => true) true 45 v d p) :
  ∃ (A : Option Addr) (c : Nat) (l : List Pr), v = .slice A l.length c ∧ Row W A (flat3 l) ∧ bulkP l + 1 ≤ Rows.uptoBulk d := by
 obtain ⟨a0, len0, cap0, rfl⟩ := okWide_slice Tryz.underlying45 hv
 obtain ⟨fuel, hf⟩ := h
 rcases open_slice_parts Tryz.underlying45 Tryz.underlying68 (by kernel_rfl) (by kernel_rfl) hf with ⟨hcs, hx⟩ | ⟨a, len, cap, m, D, Pl, hcs, _, hl, hm, hmm, hx, hcell⟩
 ·simp [Value.cells] at hcs
  obtain ⟨rfl, rfl, rfl⟩ := hcs
  simp at hx
  obtain ⟨rfl, rfl⟩ := hx
  exact ⟨none, 0, [], rfl, Row.nil _ _, by simp [bulkP, Rows.uptoBulk]⟩
 ·have hA : (Value.slice a0 len0 cap0) = .slice (some a) len cap := by simpa [Value.cells] using hcs
  injection hA with e0 e1 e2
  subst e0 e1 e2
  simp only [if_true] at hmm
  subst hmm
  have hall : ∀ i, i < m → ∃ q : Pr, D i = .agg [.lit (.string q.1.data.toList), .lit (.string q.2.1.data.toList), .lit (.bool q.2.2)] ∧ W.cell? (a.add (i * 3)) = some (.string q.1) ∧ W.cell? (a.add (i * 3 + 1)) = some (.string q.2.1) ∧ W.cell? (a.add (i * 3 + 2)) = some (.bool q.2.2) := by
   intro i hi
   obtain ⟨ys, n, hD, _, hyl, hj⟩ := hcell i hi
   obtain ⟨v0, y0, hc0, hy0, ht0⟩ := hj 0 _ rfl
   obtain ⟨v1, y1, hc1, hy1, ht1⟩ := hj 1 _ rfl
   obtain ⟨v2, y2, hc2, hy2, ht2⟩ := hj 2 _ rfl
   obtain ⟨s0, hs0, rfl, _⟩ := DataW.trod_string Tryz.underlying9 ht0
   obtain ⟨s1, hs1, rfl, _⟩ := DataW.trod_string Tryz.underlying9 ht1
   obtain ⟨b2, hs2, rfl⟩ := DataW.trod_bool Tryz.underlying4 ht2
   simp at hs0 hs1 hs2
   subst hs0 hs1 hs2
   have hys : ys = [(.lit (.string s0.data.toList), []), (.lit (.string s1.data.toList), []), (.lit (.bool b2), [])] := by
    match ys, hyl with
    | [x0, x1, x2], _ =>
     simp at hy0 hy1 hy2
     rw [hy0, hy1, hy2]
   refine ⟨(s0, s1, b2), ?_, hc0, hc1, hc2⟩
   rw [hD, hys]
   rfl
  obtain ⟨Q, hQ⟩ := choose_lt (α := Pr) (p := fun i (q : Pr) => D i = .agg [.lit (.string q.1.data.toList), .lit (.string q.2.1.data.toList), .lit (.bool q.2.2)] ∧ W.cell? (a.add (i * 3)) = some (.string q.1) ∧ W.cell? (a.add (i * 3 + 1)) = some (.string q.2.1) ∧ W.cell? (a.add (i * 3 + 2)) = some (.bool q.2.2)) hall
  have hget : ∀ (i : Nat) (q : Pr), ((List.range len0).map Q)[i]? = some q → i < len0 ∧ Q i = q := by
   intro i q hq
   have hi : i < len0 := by simpa using (List.getElem?_eq_some_iff.1 hq).1
   simp [hi] at hq
   exact ⟨hi, hq⟩
  refine ⟨some a, m, (List.range len0).map Q, by rw [List.length_map, List.length_range], row_of_cells fun j v hv => ?_, ?_⟩
  ·obtain ⟨i, x, y, c, hi, hj⟩ := flat3_inv hv
   obtain ⟨hil, hq⟩ := hget _ _ hi
   obtain ⟨_, h1, h2, h3⟩ := hQ i (by omega)
   rw [hq] at h1 h2 h3
   rcases hj with ⟨rfl, rfl⟩ | ⟨rfl, rfl⟩ | ⟨rfl, rfl⟩
   ·exact h1
   ·exact h2
   ·exact h3
  ·have hd : d = .slice ((List.range len0).map D) ((List.range (m - len0)).map fun j => D (len0 + j)) := congrArg Prod.fst hx
   have e1 : (List.range len0).map D = ((List.range len0).map Q).map fun q => DataW.agg (H := H) [.lit (.string q.1.data.toList), .lit (.string q.2.1.data.toList), .lit (.bool q.2.2)] := by
    rw [List.map_map]
    exact List.map_congr_left fun i hi => (hQ i (by have := List.mem_range.1 hi; omega)).1
   rw [hd]
   simp only [Rows.uptoBulk, e1, bulk_trips]
   omega
end Go.Proofs.YtiohmnhbmmhnhaaGreatDoor
