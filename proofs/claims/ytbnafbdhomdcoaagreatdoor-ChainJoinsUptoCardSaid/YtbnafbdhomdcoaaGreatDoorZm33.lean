/-
  CjOp, ChLawJoins, ChLawLets, without what the claim does not reach.
-/
import Derived.Test.YtbnafbdhomdcoaaGreatDoorZCjFr
import Derived.Test.YtbnafbdhomdcoaaGreatDoorZCjLb
import Derived.Test.YtbnafbdhomdcoaaGreatDoorZCjLj
namespace Go.Proofs.YtbnafbdhomdcoaaGreatDoor
open Go.RowKit Go.Shelf Go.Lib
open Go.ChangeShapes Go.WideShapes Go.Deep
theorem flatM_inv {l : List Ma} {j : Nat} {v : Value} (h : (flatM l)[j]? = some v) : ∃ (i k : Nat) (x : Ma), l[i]? = some x ∧ k < 5 ∧ j = i * 5 + k ∧ (maV x)[k]? = some v := by
 induction l generalizing j with
 | nil => simp [flatM] at h
 | cons p l ih =>
  have e : flatM (p :: l) = maV p ++ flatM l := rfl
  have hl : (maV p).length = 5 := rfl
  rw [e] at h
  rcases Nat.lt_or_ge j 5 with hj | hj
  ·rw [List.getElem?_append_left (by omega)] at h
   exact ⟨0, j, p, rfl, hj, by omega, h⟩
  ·rw [List.getElem?_append_right (by omega), hl] at h
   obtain ⟨i, k, x, h1, h2, h3, h4⟩ := ih h
   exact ⟨i + 1, k, x, by simpa using h1, h2, by omega, h4⟩
def bulkMs (l : List Ma) : Nat := (l.map fun x => bulkM x.1).sum
theorem bulkMs_at {l : List Ma} {x : Ma} (h : x ∈ l) : bulkM x.1 ≤ bulkMs l := by
 unfold bulkMs
 induction l with
 | nil => cases h
 | cons y l ih =>
  rw [List.map_cons, List.sum_cons]
  rcases List.mem_cons.1 h with rfl | h
  ·omega
  ·have := ih h
   omega
theorem bulkMs_length (l : List Ma) : l.length * 6 ≤ bulkMs l := by
 unfold bulkMs
 induction l with
 | nil => exact Nat.le_refl _
 | cons y l ih =>
  rw [List.map_cons, List.sum_cons, List.length_cons]
  have : 6 ≤ bulkM y.1 := by unfold bulkM; omega
  omega
theorem bulkF_at {l : List Fl} {p : Fl} (h : p ∈ l) : p.1.size + p.2.size + 3 ≤ bulkF l := by
 unfold bulkF
 induction l with
 | nil => cases h
 | cons y l ih =>
  rw [List.map_cons, List.sum_cons]
  rcases List.mem_cons.1 h with rfl | h
  ·omega
  ·have := ih h
   omega
theorem bulkF_len (l : List Fl) : l.length * 3 ≤ bulkF l := by
 unfold bulkF
 induction l with
 | nil => exact Nat.le_refl _
 | cons y l ih =>
  rw [List.map_cons, List.sum_cons, List.length_cons]
  omega
theorem fitS_bulk {x : Rs} (h : bulkF x.fields ≤ 1048576) : FitS 1048576 x := ⟨by have := bulkF_len x.fields; omega, fun p hp => by
 have := bulkF_at hp
 unfold maxLen
 omega⟩
theorem bulk_mids {H : Type} {f : Nat → DataW H} {Q : Nat → Ma} : ∀ (l : List Nat), (∀ i ∈ l, bulkM (Q i).1 ≤ Rows.uptoBulk (f i)) → bulkMs (l.map Q) ≤ Rows.uptoBulkAll (l.map f)
 | [], _ => Nat.zero_le _
 | i :: l, h => by
  have h1 := bulk_mids l fun j hj => h j (List.mem_cons_of_mem _ hj)
  have h2 := h i List.mem_cons_self
  simp only [bulkMs, List.map_cons, List.sum_cons, Rows.uptoBulkAll] at h1 ⊢
  omega
instance : Inhabited Ma := ⟨(⟨0, ⟨#[]⟩, ⟨#[]⟩, [], 0⟩, none, 0)⟩
def MsOk (W : World) (l : List Ma) : Prop := ∀ x ∈ l, MOne W x ∧ (Int64 x.1.kind ∧ Int64 x.1.n)
theorem MsOk.fit {W : World} {l : List Ma} (h : MsOk W l) (hb : bulkMs l ≤ 1048576) : ∀ y ∈ l, Row W y.2.1 (y.1.list.map .string) ∧ y.1.list.length ≤ y.2.2 ∧ FitM y.1 := fun y hy =>
 ⟨(h y hy).1.1, (h y hy).1.2, fit_mid (Nat.le_trans (bulkMs_at hy) hb) (h y hy).2.1 (h y hy).2.2⟩
set_option maxRecDepth 100000 in
theorem open_mids {H : Type} {enc : TypeId × Value → H} {W : World} {base : Nat} {v : Value} {d : DataW H} {p : List MemPlace} (hv : Value.okWide Tryz.prog W .any base 32 v) (h : DataW.Trod enc Tryz.prog W 0 (fun _ => true) true 32 v d p) :
  ∃ (A : Option Addr) (c : Nat) (l : List Ma), v = .slice A l.length c ∧ Row W A (flatM l) ∧ MsOk W l ∧ l.length ≤ c ∧ bulkMs l + 1 ≤ Rows.uptoBulk d := by
 obtain ⟨a0, len0, cap0, rfl⟩ := okWide_slice Tryz.underlying32 hv
 obtain ⟨fuel, hf⟩ := h
 have h9 : Tryz.prog.cellsOf 24 = 5 := by kernel_rfl
 rcases open_slice Tryz.underlying32 hf with ⟨hcs, hx⟩ | ⟨a, len, cap, m, n, D, Pl, hcs, _, hl, hm, hmm, hx, hi⟩
 ·simp [Value.cells] at hcs
  obtain ⟨rfl, rfl, rfl⟩ := hcs
  simp at hx
  obtain ⟨rfl, rfl⟩ := hx
  exact ⟨none, 0, [], rfl, Row.nil _ _, (fun x hx => by cases hx), Nat.le_refl _, Nat.le_refl _⟩
 ·have hA : (Value.slice a0 len0 cap0) = .slice (some a) len cap := by simpa [Value.cells] using hcs
  injection hA with e0 e1 e2
  subst e0 e1 e2
  simp only [if_true] at hmm
  subst hmm
  rw [h9] at hi
  have hall : ∀ i, i < m → ∃ r : Ma, (∀ k v, k < 5 → (maV r)[k]? = some v → W.cell? (a.add (i * 5 + k)) = some v) ∧ (MOne W r ∧ (Int64 r.1.kind ∧ Int64 r.1.n)) ∧ bulkM r.1 ≤ Rows.uptoBulk (D i) := by
   intro i him
   obtain ⟨cs', hc, ht⟩ := hi i him
   obtain ⟨r, rfl, hm1, hk1, hb1⟩ := open_mid1 ht
   obtain ⟨_, hcl, hat⟩ := World.cells?_some hc
   refine ⟨r, fun k v hk hv => ?_, ⟨hm1, hk1⟩, hb1⟩
   rw [← Go.Deep.add_add, hat k hk, hv]
  obtain ⟨Q, hQ⟩ := choose_lt (α := Ma) (p := fun i (r : Ma) => (∀ k v, k < 5 → (maV r)[k]? = some v → W.cell? (a.add (i * 5 + k)) = some v) ∧ (MOne W r ∧ (Int64 r.1.kind ∧ Int64 r.1.n)) ∧ bulkM r.1 ≤ Rows.uptoBulk (D i)) hall
  have hget : ∀ (i : Nat) (q : Ma), ((List.range len0).map Q)[i]? = some q → i < len0 ∧ Q i = q := by
   intro i q hq
   have hi : i < len0 := by simpa using (List.getElem?_eq_some_iff.1 hq).1
   simp [hi] at hq
   exact ⟨hi, hq⟩
  refine ⟨some a, m, (List.range len0).map Q, by rw [List.length_map, List.length_range], row_of_cells fun j v hv => ?_, fun x hx => ?_, by rw [List.length_map, List.length_range]; exact hl, ?_⟩
  ·obtain ⟨i, k, x, hi, hk, rfl, hkv⟩ := flatM_inv hv
   obtain ⟨hil, hq⟩ := hget _ _ hi
   subst hq
   exact (hQ i (by omega)).1 k v hk hkv
  ·obtain ⟨i, hi, rfl⟩ := List.mem_map.1 hx
   have := List.mem_range.1 hi
   exact (hQ i (by omega)).2.1
  ·have hd : d = .slice ((List.range len0).map D) ((List.range (m - len0)).map fun j => D (len0 + j)) := congrArg Prod.fst hx
   have hb := bulk_mids (f := D) (Q := Q) (List.range len0) fun i hi => (hQ i (by have := List.mem_range.1 hi; omega)).2.2
   rw [hd]
   simp only [Rows.uptoBulk]
   omega
set_option maxRecDepth 100000 in
theorem open_asked {H : Type} {enc : TypeId × Value → H} {W : World} {base : Nat} {v : Value} {d : DataW H} {p : List MemPlace} (hv : Value.okWide Tryz.prog W .any base 52 v) (h : DataW.Trod enc Tryz.prog W 0 (fun _ => true) true 52 v d p) :
  ∃ (r : Rq) (FA : Option Addr) (fc : Nat) (TA : Option Addr) (tc : Nat) (x : Rs) (A : Option Addr) (c : Nat), v = .agg (askC r FA fc TA tc x A c) ∧ (Row W FA (flat r.fields) ∧ Row W TA (flat r.trailers)) ∧ Row W A (flat x.fields) ∧
   (r.method.size + r.target.size + bulkF r.fields + r.body.size + bulkF r.trailers + 8) + (x.reason.size + bulkF x.fields + x.body.size + 5) ≤ Rows.uptoBulk d := by
 obtain ⟨cs, rfl, hcs⟩ := okWide_struct Tryz.underlying52 hv
 obtain ⟨fuel, hf⟩ := h
 obtain ⟨ys, n, hn, hy, hlen, hyl, hfs⟩ := DataW.trod_struct Tryz.underlying52 hf
 have hc : Tryz.prog.cellsOf 52 = 11 := by kernel_rfl
 have c0 : Tryz.prog.cellsOf 27 = 7 := by kernel_rfl
 have c1 : Tryz.prog.cellsOf 29 = 4 := by kernel_rfl
 have hyn : ys.length = 2 := hyl
 have hL : cs.toList.length = 11 := by rw [Array.length_toList, hcs, hc]
 match ys, hyn with
 | [y0, y1], _ =>
 have g0 : DataW.trod enc Tryz.prog W 0 (fun _ => true) true n 27 (List.take 7 (List.drop 0 cs.toList)) = some y0 := by
  have h0 : DataW.trod enc Tryz.prog W 0 (fun _ => true) true n 27 (List.take (Tryz.prog.cellsOf 27) (List.drop 0 cs.toList)) = some y0 := hfs 0 _ rfl
  rw [c0] at h0
  exact h0
 have g1 : DataW.trod enc Tryz.prog W 0 (fun _ => true) true n 29 (List.take 4 (List.drop 7 cs.toList)) = some y1 := by
  have h0 : DataW.trod enc Tryz.prog W 0 (fun _ => true) true n 29 (List.take (Tryz.prog.cellsOf 29) (List.drop 7 cs.toList)) = some y1 := hfs 1 _ rfl
  rw [c1] at h0
  exact h0
 obtain ⟨r, FA, fc, TA, tc, er, hr, _, hbr⟩ := open_req1 g0
 obtain ⟨x, A, c, ex, hx, _, _, hbx⟩ := open_res1 g1
 refine ⟨r, FA, fc, TA, tc, x, A, c, ?_, hr, hx, ?_⟩
 ·have e1 : List.drop 7 cs.toList = [.int .i64 x.status, .string x.reason, .slice A x.fields.length c, .string x.body] := by
   rw [← ex, List.take_of_length_le (by rw [List.length_drop, hL]; decide)]
  have e2 : cs.toList = (askC r FA fc TA tc x A c).toList := by
   rw [← List.take_append_drop 7 cs.toList, e1, ← List.drop_zero (l := cs.toList), er]
   rfl
  rw [Array.toList_inj.1 e2]
 ·have e : d = .agg [y0.1, y1.1] := congrArg Prod.fst hy
  rw [e]
  simp only [Rows.uptoBulk, Rows.uptoBulkAll]
  omega
end Go.Proofs.YtbnafbdhomdcoaaGreatDoor
namespace Go.Proofs.YtbnafbdhomdcoaaGreatDoor
open Go.RowKit Go.Shelf Go.Lib
theorem ChainJoins_walk (MA : Option Addr) (mc : Nat) (ls : List Ma) (KA : Option Addr) (kc : Nat) (ks : List Ma) (r : Rq) (FA : Option Addr) (fc : Nat) (TA : Option Addr) (tc : Nat) (x : Rs) (A : Option Addr) (c : Nat) (w : World)
  (hM : Row w MA (flatM ls)) (hO : MsOk w ls) (_hc : ls.length ≤ mc) (hMk : Row w KA (flatM ks)) (hOk : MsOk w ks) (_hk : ks.length ≤ kc) (hF : Row w FA (flat r.fields) ∧ Row w TA (flat r.trailers)) (hA : Row w A (flat x.fields))
  (hkk : bulkMs ls + bulkMs ks + (r.method.size + r.target.size + bulkF r.fields + r.body.size + bulkF r.trailers + x.reason.size + bulkF x.fields + x.body.size) ≤ 1048576) (hg : GlobC w) :
  Calls Tryz.prog 5 #[.slice MA ls.length mc, .slice KA ks.length kc, .agg (askC r FA fc TA tc x A c)] w fun e w' => e = .returned (.bool true) ∧ Below w.heap.size w w' :=
 ChainJoins_any ls MA mc ks KA kc w r FA fc TA tc x A c hg hM (hO.fit (by omega)) (by have := bulkMs_length ls; omega) hMk (hOk.fit (by omega)) (by have := bulkMs_length ks; omega) hF.1 hF.2 ⟨by omega, by omega, by omega, by unfold maxLen; omega⟩ hA (fitS_bulk (by omega))
end Go.Proofs.YtbnafbdhomdcoaaGreatDoor
namespace Go.Proofs.YtbnafbdhomdcoaaGreatDoor
open Go.RowKit Go.Shelf Go.Lib
theorem ChainLets_walk (MA : Option Addr) (mc : Nat) (ls : List Ma) (r : Rq) (FA : Option Addr) (fc : Nat) (TA : Option Addr) (tc : Nat) (x : Rs) (A : Option Addr) (c : Nat) (kind : Int) (w : World)
  (hM : Row w MA (flatM ls)) (hO : MsOk w ls) (_hc : ls.length ≤ mc) (hF : Row w FA (flat r.fields) ∧ Row w TA (flat r.trailers)) (hA : Row w A (flat x.fields)) (hk : -9223372036854775808 ≤ kind ∧ kind ≤ 9223372036854775807)
  (hkk : bulkMs ls + (r.method.size + r.target.size + bulkF r.fields + r.body.size + bulkF r.trailers + x.reason.size + bulkF x.fields + x.body.size) + 0 ≤ 1048576) (hg : GlobC w) :
  Calls Tryz.prog 6 #[.slice MA ls.length mc, .agg (askC r FA fc TA tc x A c), .int .i64 kind] w fun e w' => e = .returned (.bool true) ∧ Below w.heap.size w w' :=
 ChainLets_any kind ls MA mc w r FA fc TA tc x A c hk hg hM (hO.fit (by omega)) (by have := bulkMs_length ls; omega) hF.1 hF.2 ⟨by omega, by omega, by omega, by unfold maxLen; omega⟩ hA (fitS_bulk (by omega))
end Go.Proofs.YtbnafbdhomdcoaaGreatDoor
