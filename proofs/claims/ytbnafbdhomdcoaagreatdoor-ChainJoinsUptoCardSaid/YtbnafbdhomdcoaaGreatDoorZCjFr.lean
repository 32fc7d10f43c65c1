/-
 CjFr, without what this claim does not reach.
-/
import Derived.Test.YtbnafbdhomdcoaaGreatDoorZm9
import Derived.Deep.Slices
import Derived.SliceStrings
import Derived.Test.YtbnafbdhomdcoaaGreatDoorZm29
import Derived.Test.YtbnafbdhomdcoaaGreatDoorZm15
namespace Go.Proofs.YtbnafbdhomdcoaaGreatDoor
open Go.RowKit Go.Shelf Go.Lib
open Go.ChangeShapes Go.WideShapes Go.Deep
theorem row_of_cells {W : World} {a : Addr} {xs : List Value} (h : ∀ i v, xs[i]? = some v → W.cell? (a.add i) = some v) : Row W (some a) xs := fun hpos => by
 have h0 := h 0 _ (List.getElem?_eq_getElem hpos)
 have e0 : a.add 0 = a := by simp [Addr.add]
 rw [e0] at h0
 have hsp := cell_plain h0
 obtain ⟨b, o, s⟩ := a
 simp only at hsp
 subst hsp
 refine ⟨b, o, rfl, ?_, fun j v hv => ?_⟩
 ·rcases Nat.lt_or_ge b W.heap.size with h1 | h1
  ·exact h1
  ·simp [World.cell?, Array.getElem?_eq_none h1] at h0
 ·have := h j v hv
  rw [← add_plain (cell_plain this)]
  exact this
theorem bulk_sum {H : Type} (l : List ByteArray) : Rows.uptoBulkAll (l.map fun s => DataW.lit (H := H) (.string s.data.toList)) = (l.map fun m => m.size + 1).sum := by
 induction l with
 | nil => rfl
 | cons x l ih =>
  simp only [List.map_cons, Rows.uptoBulkAll, Rows.uptoBulk, ih, List.sum_cons, size_eq]
theorem open_texts1 {H : Type} {enc : TypeId × Value → H} {W : World} {fuel : Nat} {cs : List Value} {x : DataW H × List MemPlace} (hf : DataW.trod enc Tryz.prog W 0 (fun _ => true) true fuel 22 cs = some x) :
  ∃ (A : Option Addr) (c : Nat) (l : List ByteArray), cs = [.slice A l.length c] ∧ Row W A (l.map .string) ∧ l.length ≤ c ∧ (l.map fun m => m.size + 1).sum + 1 ≤ Rows.uptoBulk x.1 := by
 rcases open_strings Tryz.underlying22 Tryz.underlying9 (by kernel_rfl) hf with ⟨hcs, hx⟩ | ⟨a, len, cap, ss, hcs, _, hl, hm, hss, hx, hcell, _⟩
 ·subst hcs
  subst hx
  exact ⟨none, 0, [], rfl, Row.nil _ _, Nat.le_refl _, by simp [Rows.uptoBulk]⟩
 ·subst hcs
  simp only [if_true] at hss
  have hlen : (ss.take len).length = len := by rw [List.length_take]; omega
  refine ⟨some a, cap, ss.take len, by rw [hlen], row_of_cells fun i v hv => ?_, by rw [hlen]; exact hl, ?_⟩
  ·rw [List.getElem?_map, Option.map_eq_some_iff] at hv
   obtain ⟨x, hx1, rfl⟩ := hv
   have hi : i < ss.length := by
    have := lt_of_some hx1
    rw [List.length_take] at this
    omega
   rw [hcell i hi]
   have hx2 : ss[i]? = some x := by
    rw [List.getElem?_take] at hx1
    split at hx1
    ·exact hx1
    ·cases hx1
   rw [List.getD_eq_getElem?_getD, hx2]
   rfl
  ·rw [hx]
   simp only [Rows.uptoBulk]
   have e : ∀ m : List ByteArray, strs (H := H) m = m.map fun s => DataW.lit (H := H) (.string s.data.toList) := fun _ => rfl
   rw [e, bulk_sum]
   omega
set_option maxRecDepth 100000 in
theorem open_fields1 {H : Type} {enc : TypeId × Value → H} {W : World} {fuel : Nat} {cs : List Value} {x : DataW H × List MemPlace} (hf : DataW.trod enc Tryz.prog W 0 (fun _ => true) true fuel 25 cs = some x) :
  ∃ (A : Option Addr) (c : Nat) (l : List Fl), cs = [.slice A l.length c] ∧ Row W A (flat l) ∧ l.length ≤ c ∧ bulkF l + 1 ≤ Rows.uptoBulk x.1 := by
 rcases open_slice_fields Tryz.underlying25 Tryz.underlying59 (by kernel_rfl) (by kernel_rfl) hf with ⟨hcs, hx⟩ | ⟨a, len, cap, m, D, Pl, hcs, _, hl, hm, hmm, hx, hcell⟩
 ·subst hcs
  subst hx
  exact ⟨none, 0, [], rfl, Row.nil _ _, Nat.le_refl _, by simp [bulkF, Rows.uptoBulk]⟩
 ·subst hcs
  simp only [if_true] at hmm
  subst hmm
  have hall : ∀ i, i < m → ∃ q : Fl, D i = .agg [.lit (.string q.1.data.toList), .lit (.string q.2.data.toList)] ∧ W.cell? (a.add (i * 2)) = some (.string q.1) ∧ W.cell? (a.add (i * 2 + 1)) = some (.string q.2) := by
   intro i hi
   obtain ⟨ys, n, hD, _, hyl, hj⟩ := hcell i hi
   obtain ⟨v0, y0, hc0, hy0, ht0⟩ := hj 0 _ rfl
   obtain ⟨v1, y1, hc1, hy1, ht1⟩ := hj 1 _ rfl
   obtain ⟨s0, hs0, rfl, _⟩ := DataW.trod_string Tryz.underlying9 ht0
   obtain ⟨s1, hs1, rfl, _⟩ := DataW.trod_string Tryz.underlying9 ht1
   simp at hs0 hs1
   subst hs0 hs1
   have hys : ys = [(.lit (.string s0.data.toList), []), (.lit (.string s1.data.toList), [])] := by
    match ys, hyl with
    | [x0, x1], _ =>
     simp at hy0 hy1
     rw [hy0, hy1]
   refine ⟨(s0, s1), ?_, hc0, hc1⟩
   rw [hD, hys]
   rfl
  obtain ⟨Q, hQ⟩ := choose_lt (α := Fl) (p := fun i (q : Fl) => D i = .agg [.lit (.string q.1.data.toList), .lit (.string q.2.data.toList)] ∧ W.cell? (a.add (i * 2)) = some (.string q.1) ∧ W.cell? (a.add (i * 2 + 1)) = some (.string q.2)) hall
  have hget : ∀ (i : Nat) (q : Fl), ((List.range len).map Q)[i]? = some q → i < len ∧ Q i = q := by
   intro i q hq
   have hi : i < len := by simpa using (List.getElem?_eq_some_iff.1 hq).1
   simp [hi] at hq
   exact ⟨hi, hq⟩
  refine ⟨some a, m, (List.range len).map Q, by rw [List.length_map, List.length_range], row_of_cells fun j v hv => ?_, by rw [List.length_map, List.length_range]; exact hl, ?_⟩
  ·obtain ⟨i, x, y, hi, hj⟩ := flat_inv hv
   obtain ⟨hil, hq⟩ := hget _ _ hi
   obtain ⟨_, h1, h2⟩ := hQ i (by omega)
   rw [hq] at h1 h2
   rcases hj with ⟨rfl, rfl⟩ | ⟨rfl, rfl⟩
   ·exact h1
   ·exact h2
  ·have e1 : (List.range len).map D = ((List.range len).map Q).map fun q => DataW.agg (H := H) [.lit (.string q.1.data.toList), .lit (.string q.2.data.toList)] := by
    rw [List.map_map]
    exact List.map_congr_left fun i hi => (hQ i (by have := List.mem_range.1 hi; omega)).1
   rw [hx]
   simp only [Rows.uptoBulk, e1, bulk_pairs]
   omega
def bulkM (m : Mid) : Nat := m.name.size + m.value.size + (m.list.map fun s => s.size + 1).sum + 6
def Int64 (n : Int) : Prop := -9223372036854775808 ≤ n ∧ n ≤ 9223372036854775807
theorem fit_mid {m : Mid} (h : bulkM m ≤ 1048576) (hk : Int64 m.kind) (hn : Int64 m.n) : FitM m := by
 unfold bulkM at h
 exact ⟨by omega, by omega, by omega, hk.1, hk.2, hn.1, hn.2⟩
set_option maxRecDepth 100000 in
theorem open_mid1 {H : Type} {enc : TypeId × Value → H} {W : World} {fuel : Nat} {cs : List Value} {x : DataW H × List MemPlace} (h : DataW.trod enc Tryz.prog W 0 (fun _ => true) true fuel 24 cs = some x) :
  ∃ r : Ma, cs = maV r ∧ MOne W r ∧ (Int64 r.1.kind ∧ Int64 r.1.n) ∧ bulkM r.1 ≤ Rows.uptoBulk x.1 := by
 obtain ⟨ys, n, hn, hy, hlen, hyl, hfs⟩ := DataW.trod_struct Tryz.underlying24 h
 have hc : Tryz.prog.cellsOf 24 = 5 := by kernel_rfl
 have c0 : Tryz.prog.cellsOf 3 = 1 := by kernel_rfl
 have c1 : Tryz.prog.cellsOf 9 = 1 := by kernel_rfl
 have c2 : Tryz.prog.cellsOf 22 = 1 := by kernel_rfl
 rw [hc] at hlen
 match cs, hlen with
 | [x0, x1, x2, x3, x4], _ =>
 have hyn : ys.length = 5 := hyl
 match ys, hyn with
 | [y0, y1, y2, y3, y4], _ =>
 have g0 : DataW.trod enc Tryz.prog W 0 (fun _ => true) true n 3 [x0] = some y0 := by
  have h0 : DataW.trod enc Tryz.prog W 0 (fun _ => true) true n 3 (List.take (Tryz.prog.cellsOf 3) (List.drop 0 [x0, x1, x2, x3, x4])) = some y0 := hfs 0 _ rfl
  rw [c0] at h0
  exact h0
 have g1 : DataW.trod enc Tryz.prog W 0 (fun _ => true) true n 9 [x1] = some y1 := by
  have h0 : DataW.trod enc Tryz.prog W 0 (fun _ => true) true n 9 (List.take (Tryz.prog.cellsOf 9) (List.drop 1 [x0, x1, x2, x3, x4])) = some y1 := hfs 1 _ rfl
  rw [c1] at h0
  exact h0
 have g2 : DataW.trod enc Tryz.prog W 0 (fun _ => true) true n 9 [x2] = some y2 := by
  have h0 : DataW.trod enc Tryz.prog W 0 (fun _ => true) true n 9 (List.take (Tryz.prog.cellsOf 9) (List.drop 2 [x0, x1, x2, x3, x4])) = some y2 := hfs 2 _ rfl
  rw [c1] at h0
  exact h0
 have g3 : DataW.trod enc Tryz.prog W 0 (fun _ => true) true n 22 [x3] = some y3 := by
  have h0 : DataW.trod enc Tryz.prog W 0 (fun _ => true) true n 22 (List.take (Tryz.prog.cellsOf 22) (List.drop 3 [x0, x1, x2, x3, x4])) = some y3 := hfs 3 _ rfl
  rw [c2] at h0
  exact h0
 have g4 : DataW.trod enc Tryz.prog W 0 (fun _ => true) true n 3 [x4] = some y4 := by
  have h0 : DataW.trod enc Tryz.prog W 0 (fun _ => true) true n 3 (List.take (Tryz.prog.cellsOf 3) (List.drop 4 [x0, x1, x2, x3, x4])) = some y4 := hfs 4 _ rfl
  rw [c0] at h0
  exact h0
 obtain ⟨n0, e0, r0, k0⟩ := DataW.trod_int Tryz.underlying3 g0
 obtain ⟨s1, e1, r1, _⟩ := DataW.trod_string Tryz.underlying9 g1
 obtain ⟨s2, e2, r2, _⟩ := DataW.trod_string Tryz.underlying9 g2
 obtain ⟨A3, k3c, l3, e3, q3, d3, b3⟩ := open_texts1 g3
 obtain ⟨n4, e4, r4, k4⟩ := DataW.trod_int Tryz.underlying3 g4
 simp at e0 e1 e2 e3 e4
 subst e0 e1 e2 e3 e4
 refine ⟨(⟨n0, s1, s2, l3, n4⟩, A3, k3c), rfl, ⟨q3, d3⟩, ⟨int_range k0, int_range k4⟩, ?_⟩
 unfold bulkM
 rw [hy, r0, r1, r2, r4]
 simp only [List.map_cons, List.map_nil, Rows.uptoBulk, Rows.uptoBulkAll, size_eq]
 omega
set_option maxRecDepth 100000 in
theorem open_req1 {H : Type} {enc : TypeId × Value → H} {W : World} {fuel : Nat} {cs : List Value} {x : DataW H × List MemPlace} (h : DataW.trod enc Tryz.prog W 0 (fun _ => true) true fuel 27 cs = some x) :
  ∃ (r : Rq) (A : Option Addr) (c : Nat) (B : Option Addr) (d : Nat), cs = [.string r.method, .string r.target, .int .i64 r.major, .int .i64 r.minor, .slice A r.fields.length c, .string r.body, .slice B r.trailers.length d] ∧ (Row W A (flat r.fields) ∧ Row W B (flat r.trailers)) ∧ (r.fields.length ≤ c ∧ r.trailers.length ≤ d) ∧ r.method.size + r.target.size + bulkF r.fields + r.body.size + bulkF r.trailers + 8 ≤ Rows.uptoBulk x.1 := by
 obtain ⟨ys, n, hn, hy, hlen, hyl, hfs⟩ := DataW.trod_struct Tryz.underlying27 h
 have hc : Tryz.prog.cellsOf 27 = 7 := by kernel_rfl
 have c0 : Tryz.prog.cellsOf 9 = 1 := by kernel_rfl
 have c1 : Tryz.prog.cellsOf 3 = 1 := by kernel_rfl
 have c2 : Tryz.prog.cellsOf 25 = 1 := by kernel_rfl
 rw [hc] at hlen
 match cs, hlen with
 | [x0, x1, x2, x3, x4, x5, x6], _ =>
 have hyn : ys.length = 7 := hyl
 match ys, hyn with
 | [y0, y1, y2, y3, y4, y5, y6], _ =>
 have g0 : DataW.trod enc Tryz.prog W 0 (fun _ => true) true n 9 [x0] = some y0 := by
  have h0 : DataW.trod enc Tryz.prog W 0 (fun _ => true) true n 9 (List.take (Tryz.prog.cellsOf 9) (List.drop 0 [x0, x1, x2, x3, x4, x5, x6])) = some y0 := hfs 0 _ rfl
  rw [c0] at h0
  exact h0
 have g1 : DataW.trod enc Tryz.prog W 0 (fun _ => true) true n 9 [x1] = some y1 := by
  have h0 : DataW.trod enc Tryz.prog W 0 (fun _ => true) true n 9 (List.take (Tryz.prog.cellsOf 9) (List.drop 1 [x0, x1, x2, x3, x4, x5, x6])) = some y1 := hfs 1 _ rfl
  rw [c0] at h0
  exact h0
 have g2 : DataW.trod enc Tryz.prog W 0 (fun _ => true) true n 3 [x2] = some y2 := by
  have h0 : DataW.trod enc Tryz.prog W 0 (fun _ => true) true n 3 (List.take (Tryz.prog.cellsOf 3) (List.drop 2 [x0, x1, x2, x3, x4, x5, x6])) = some y2 := hfs 2 _ rfl
  rw [c1] at h0
  exact h0
 have g3 : DataW.trod enc Tryz.prog W 0 (fun _ => true) true n 3 [x3] = some y3 := by
  have h0 : DataW.trod enc Tryz.prog W 0 (fun _ => true) true n 3 (List.take (Tryz.prog.cellsOf 3) (List.drop 3 [x0, x1, x2, x3, x4, x5, x6])) = some y3 := hfs 3 _ rfl
  rw [c1] at h0
  exact h0
 have g4 : DataW.trod enc Tryz.prog W 0 (fun _ => true) true n 25 [x4] = some y4 := by
  have h0 : DataW.trod enc Tryz.prog W 0 (fun _ => true) true n 25 (List.take (Tryz.prog.cellsOf 25) (List.drop 4 [x0, x1, x2, x3, x4, x5, x6])) = some y4 := hfs 4 _ rfl
  rw [c2] at h0
  exact h0
 have g5 : DataW.trod enc Tryz.prog W 0 (fun _ => true) true n 9 [x5] = some y5 := by
  have h0 : DataW.trod enc Tryz.prog W 0 (fun _ => true) true n 9 (List.take (Tryz.prog.cellsOf 9) (List.drop 5 [x0, x1, x2, x3, x4, x5, x6])) = some y5 := hfs 5 _ rfl
  rw [c0] at h0
  exact h0
 have g6 : DataW.trod enc Tryz.prog W 0 (fun _ => true) true n 25 [x6] = some y6 := by
  have h0 : DataW.trod enc Tryz.prog W 0 (fun _ => true) true n 25 (List.take (Tryz.prog.cellsOf 25) (List.drop 6 [x0, x1, x2, x3, x4, x5, x6])) = some y6 := hfs 6 _ rfl
  rw [c2] at h0
  exact h0
 obtain ⟨s0, e0, r0, _⟩ := DataW.trod_string Tryz.underlying9 g0
 obtain ⟨s1, e1, r1, _⟩ := DataW.trod_string Tryz.underlying9 g1
 obtain ⟨n2, e2, r2, k2⟩ := DataW.trod_int Tryz.underlying3 g2
 obtain ⟨n3, e3, r3, k3⟩ := DataW.trod_int Tryz.underlying3 g3
 obtain ⟨A4, k4c, l4, e4, q4, d4, b4⟩ := open_fields1 g4
 obtain ⟨s5, e5, r5, _⟩ := DataW.trod_string Tryz.underlying9 g5
 obtain ⟨A6, k6c, l6, e6, q6, d6, b6⟩ := open_fields1 g6
 simp at e0 e1 e2 e3 e4 e5 e6
 subst e0 e1 e2 e3 e4 e5 e6
 refine ⟨⟨s0, s1, n2, n3, l4, s5, l6⟩, A4, k4c, A6, k6c, rfl, ⟨q4, q6⟩, ⟨d4, d6⟩, ?_⟩
 rw [hy, r0, r1, r2, r3, r5]
 simp only [List.map_cons, List.map_nil, Rows.uptoBulk, Rows.uptoBulkAll, size_eq]
 omega
set_option maxRecDepth 100000 in
theorem open_res1 {H : Type} {enc : TypeId × Value → H} {W : World} {fuel : Nat} {cs : List Value} {x : DataW H × List MemPlace} (h : DataW.trod enc Tryz.prog W 0 (fun _ => true) true fuel 29 cs = some x) :
  ∃ (r : Rs) (A : Option Addr) (c : Nat), cs = [.int .i64 r.status, .string r.reason, .slice A r.fields.length c, .string r.body] ∧ Row W A (flat r.fields) ∧ r.fields.length ≤ c ∧ Int64 r.status ∧ r.reason.size + bulkF r.fields + r.body.size + 5 ≤ Rows.uptoBulk x.1 := by
 obtain ⟨ys, n, hn, hy, hlen, hyl, hfs⟩ := DataW.trod_struct Tryz.underlying29 h
 have hc : Tryz.prog.cellsOf 29 = 4 := by kernel_rfl
 have c0 : Tryz.prog.cellsOf 3 = 1 := by kernel_rfl
 have c1 : Tryz.prog.cellsOf 9 = 1 := by kernel_rfl
 have c2 : Tryz.prog.cellsOf 25 = 1 := by kernel_rfl
 rw [hc] at hlen
 match cs, hlen with
 | [x0, x1, x2, x3], _ =>
 have hyn : ys.length = 4 := hyl
 match ys, hyn with
 | [y0, y1, y2, y3], _ =>
 have g0 : DataW.trod enc Tryz.prog W 0 (fun _ => true) true n 3 [x0] = some y0 := by
  have h0 : DataW.trod enc Tryz.prog W 0 (fun _ => true) true n 3 (List.take (Tryz.prog.cellsOf 3) (List.drop 0 [x0, x1, x2, x3])) = some y0 := hfs 0 _ rfl
  rw [c0] at h0
  exact h0
 have g1 : DataW.trod enc Tryz.prog W 0 (fun _ => true) true n 9 [x1] = some y1 := by
  have h0 : DataW.trod enc Tryz.prog W 0 (fun _ => true) true n 9 (List.take (Tryz.prog.cellsOf 9) (List.drop 1 [x0, x1, x2, x3])) = some y1 := hfs 1 _ rfl
  rw [c1] at h0
  exact h0
 have g2 : DataW.trod enc Tryz.prog W 0 (fun _ => true) true n 25 [x2] = some y2 := by
  have h0 : DataW.trod enc Tryz.prog W 0 (fun _ => true) true n 25 (List.take (Tryz.prog.cellsOf 25) (List.drop 2 [x0, x1, x2, x3])) = some y2 := hfs 2 _ rfl
  rw [c2] at h0
  exact h0
 have g3 : DataW.trod enc Tryz.prog W 0 (fun _ => true) true n 9 [x3] = some y3 := by
  have h0 : DataW.trod enc Tryz.prog W 0 (fun _ => true) true n 9 (List.take (Tryz.prog.cellsOf 9) (List.drop 3 [x0, x1, x2, x3])) = some y3 := hfs 3 _ rfl
  rw [c1] at h0
  exact h0
 obtain ⟨n0, e0, r0, k0⟩ := DataW.trod_int Tryz.underlying3 g0
 obtain ⟨s1, e1, r1, _⟩ := DataW.trod_string Tryz.underlying9 g1
 obtain ⟨A2, k2c, l2, e2, q2, d2, b2⟩ := open_fields1 g2
 obtain ⟨s3, e3, r3, _⟩ := DataW.trod_string Tryz.underlying9 g3
 simp at e0 e1 e2 e3
 subst e0 e1 e2 e3
 refine ⟨⟨n0, s1, l2, s3⟩, A2, k2c, rfl, q2, d2, int_range k0, ?_⟩
 rw [hy, r0, r1, r3]
 simp only [List.map_cons, List.map_nil, Rows.uptoBulk, Rows.uptoBulkAll, size_eq]
 omega
end Go.Proofs.YtbnafbdhomdcoaaGreatDoor
