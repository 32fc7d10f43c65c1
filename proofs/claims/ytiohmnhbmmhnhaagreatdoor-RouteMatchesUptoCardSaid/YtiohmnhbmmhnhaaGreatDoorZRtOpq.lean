/-
  RtOpq, without what this claim does not reach.
-/
import Derived.Test.YtiohmnhbmmhnhaaGreatDoorZRtFrame
import Derived.Test.YtiohmnhbmmhnhaaGreatDoorZRtLawMatches
namespace Go.Proofs.YtiohmnhbmmhnhaaGreatDoor
open Go.ChangeShapes Go.WideShapes Go.ChangeAt Go.RowKit Go.Deep
theorem flatS2_inv {l : List (ByteArray × ByteArray)} {j : Nat} {v : Value} (h : (flatS2 l)[j]? = some v) : ∃ (i : Nat) (x : ByteArray × ByteArray), l[i]? = some x ∧ ((j = i * 2 ∧ v = .string x.1) ∨ (j = i * 2 + 1 ∧ v = .string x.2)) := by
  induction l generalizing j with
  | nil => simp [flatS2] at h
  | cons p l ih =>
    have e : flatS2 (p :: l) = .string p.1 :: .string p.2 :: flatS2 l := rfl
    rw [e] at h
    match j with
    | 0 => exact ⟨0, p, rfl, .inl ⟨rfl, by simpa using h.symm⟩⟩
    | 1 => exact ⟨0, p, rfl, .inr ⟨rfl, by simpa using h.symm⟩⟩
    | j + 2 =>
      obtain ⟨i, x, hi, hj⟩ := ih (j := j) (by simpa using h)
      refine ⟨i + 1, x, by simpa using hi, ?_⟩
      rcases hj with ⟨h1, h2⟩ | ⟨h1, h2⟩
      · exact .inl ⟨by omega, h2⟩
      · exact .inr ⟨by omega, h2⟩
theorem bulk_asks {H : Type} {f : Nat → DataW H} {Q : Nat → ByteArray × ByteArray} : ∀ (l : List Nat), (∀ i ∈ l, (Q i).1.size + (Q i).2.size + 3 ≤ Rows.uptoBulk (f i)) → bulkQ (l.map Q) ≤ Rows.uptoBulkAll (l.map f)
  | [], _ => Nat.zero_le _
  | i :: l, h => by
    have h1 := bulk_asks l fun j hj => h j (List.mem_cons_of_mem _ hj)
    have h2 := h i List.mem_cons_self
    unfold bulkQ at h1 ⊢
    simp only [List.map_cons, List.sum_cons, Rows.uptoBulkAll]
    omega
instance : Inhabited (ByteArray × ByteArray) := ⟨(⟨#[]⟩, ⟨#[]⟩)⟩
set_option maxRecDepth 100000 in
theorem open_asks {H : Type} {enc : TypeId × Value → H} {W : World} {base : Nat} {v : Value} {d : DataW H} {p : List MemPlace} (hv : Value.okWide Tryz.prog W .any base 55 v) (h : DataW.Trod enc Tryz.prog W 0 (fun _ => true) true 55 v d p) :
    ∃ (A : Option Addr) (c : Nat) (l : List (ByteArray × ByteArray)), v = .slice A l.length c ∧ Row W A (flatS2 l) ∧ bulkQ l + 1 ≤ Rows.uptoBulk d := by
  obtain ⟨a0, len0, cap0, rfl⟩ := okWide_slice Tryz.underlying55 hv
  obtain ⟨fuel, hf⟩ := h
  have h2 : Tryz.prog.cellsOf 42 = 2 := by kernel_rfl
  rcases open_slice Tryz.underlying55 hf with ⟨hcs, hx⟩ | ⟨a, len, cap, m, n, D, Pl, hcs, _, hl, hm, hmm, hx, hi⟩
  · simp [Value.cells] at hcs
    obtain ⟨rfl, rfl, rfl⟩ := hcs
    simp at hx
    obtain ⟨rfl, rfl⟩ := hx
    exact ⟨none, 0, [], rfl, Row.nil _ _, Nat.le_refl _⟩
  · have hA : (Value.slice a0 len0 cap0) = .slice (some a) len cap := by simpa [Value.cells] using hcs
    injection hA with e0 e1 e2
    subst e0 e1 e2
    simp only [if_true] at hmm
    subst hmm
    rw [h2] at hi
    have hall : ∀ i, i < m → ∃ q : ByteArray × ByteArray, (W.cell? (a.add (i * 2 + 0)) = some (.string q.1) ∧ W.cell? (a.add (i * 2 + 1)) = some (.string q.2)) ∧ q.1.size + q.2.size + 3 ≤ Rows.uptoBulk (D i) := by
      intro i him
      obtain ⟨cs', hc, ht⟩ := hi i him
      obtain ⟨q, rfl, hb1⟩ := open_ask1 ht
      obtain ⟨_, hcl, hat⟩ := World.cells?_some hc
      refine ⟨q, ⟨?_, ?_⟩, hb1⟩
      · rw [← Go.Deep.add_add, hat 0 (by omega)]
        rfl
      · rw [← Go.Deep.add_add, hat 1 (by omega)]
        rfl
    obtain ⟨Q, hQ⟩ := choose_lt (α := ByteArray × ByteArray) (p := fun i (q : ByteArray × ByteArray) => (W.cell? (a.add (i * 2 + 0)) = some (.string q.1) ∧ W.cell? (a.add (i * 2 + 1)) = some (.string q.2)) ∧ q.1.size + q.2.size + 3 ≤ Rows.uptoBulk (D i)) hall
    have hget : ∀ (i : Nat) (q : ByteArray × ByteArray), ((List.range len0).map Q)[i]? = some q → i < len0 ∧ Q i = q := by
      intro i q hq
      have hi : i < len0 := by simpa using (List.getElem?_eq_some_iff.1 hq).1
      simp [hi] at hq
      exact ⟨hi, hq⟩
    refine ⟨some a, m, (List.range len0).map Q, by rw [List.length_map, List.length_range], row_of_cells fun j v hv => ?_, ?_⟩
    · obtain ⟨i, x, hi, hj⟩ := flatS2_inv hv
      obtain ⟨hil, hq⟩ := hget _ _ hi
      subst hq
      rcases hj with ⟨rfl, rfl⟩ | ⟨rfl, rfl⟩
      · exact (hQ i (by omega)).1.1
      · exact (hQ i (by omega)).1.2
    · have hd : d = .slice ((List.range len0).map D) ((List.range (m - len0)).map fun j => D (len0 + j)) := congrArg Prod.fst hx
      have hb := bulk_asks (f := D) (Q := Q) (List.range len0) fun i hi => (hQ i (by have := List.mem_range.1 hi; omega)).2
      rw [hd]
      simp only [Rows.uptoBulk]
      omega
end Go.Proofs.YtiohmnhbmmhnhaaGreatDoor
