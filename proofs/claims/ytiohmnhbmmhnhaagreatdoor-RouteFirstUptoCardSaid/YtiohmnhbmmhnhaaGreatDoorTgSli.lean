/-
  Words for rows of cells that are read, and for rows that a call owns: slices of texts, slices of pairs of texts.
-/
import Derived.Test.YtiohmnhbmmhnhaaGreatDoorPlain
import Derived.Test.YtiohmnhbmmhnhaaGreatDoorTgO
import Derived.OwnWalk
import Derived.Deep.AppendLies
import Derived.Deep.Onto
namespace Go.Proofs.YtiohmnhbmmhnhaaGreatDoor
open Go.RowKit

/-- The cells behind a slice's address. -/
def Row (w : World) (A : Option Addr) (xs : List Value) : Prop := 0 < xs.length → ∃ b off, A = some ⟨b, off, none⟩ ∧ b < w.heap.size ∧ ∀ j v, xs[j]? = some v → w.cell? ⟨b, off + j, none⟩ = some v
section
variable {w w' : World} {A : Option Addr} {xs : List Value}
theorem Row.nil (w : World) (A : Option Addr) : Row w A [] := fun h => by simp at h
theorem Row.keep (h : Row w A xs) (hs : w.heap.size ≤ w'.heap.size) (hk : ∀ p : Addr, p.block < w.heap.size → w'.cell? p = w.cell? p) : Row w' A xs := fun hn => by
  obtain ⟨b, off, e, hb, hc⟩ := h hn
  exact ⟨b, off, e, by omega, fun j v hv => (hk ⟨b, off + j, none⟩ hb).trans (hc j v hv)⟩
theorem Row.below (h : Row w A xs) (hb : Below w.heap.size w w') : Row w' A xs := h.keep hb.size fun _ hp => hb.cell hp
theorem Row.drew (h : Row w A xs) : Row w.drew A xs := h
theorem Row.drewN (h : Row w A xs) (n : Nat) : Row (w.drewN n) A xs := h
theorem Row.alloc (h : Row w A xs) (o : Obj) : Row (w.alloc o) A xs := h.keep (by simp) fun p hp => World.cell?_alloc_lt w o p hp
theorem Row.at_ (h : Row w A xs) {j : Nat} {v : Value} (hv : xs[j]? = some v) : ∃ b off, A = some ⟨b, off, none⟩ ∧ b < w.heap.size ∧ ∀ i u, xs[i]? = some u → w.cell? ⟨b, off + i, none⟩ = some u :=
  h (by
    have := (List.getElem?_eq_some_iff.1 hv).1
    omega)
end

/-- Pairs of texts as cells. -/
def flat (l : List (ByteArray × ByteArray)) : List Value := l.flatMap fun p => [.string p.1, .string p.2]
theorem flat_length (l : List (ByteArray × ByteArray)) : (flat l).length = l.length * 2 := by
  induction l with
  | nil => rfl
  | cons p l ih =>
    show (flat l).length + 2 = _
    rw [ih, List.length_cons]
    omega
theorem flat_append (l m : List (ByteArray × ByteArray)) : flat (l ++ m) = flat l ++ flat m := by simp [flat]
theorem flat_get {l : List (ByteArray × ByteArray)} {k : Nat} {x y : ByteArray} (h : l[k]? = some (x, y)) : (flat l)[k * 2]? = some (.string x) ∧ (flat l)[k * 2 + 1]? = some (.string y) := by
  induction l generalizing k with
  | nil => simp at h
  | cons p l ih =>
    cases k with
    | zero =>
      simp at h
      subst h
      exact ⟨rfl, rfl⟩
    | succ k =>
      have := ih (k := k) (by simpa using h)
      have e : flat (p :: l) = .string p.1 :: .string p.2 :: flat l := rfl
      rw [e, show (k + 1) * 2 = k * 2 + 1 + 1 from by omega, show k * 2 + 1 + 1 + 1 = (k * 2 + 1) + 1 + 1 from rfl]
      simpa using this
theorem flat_inv {l : List (ByteArray × ByteArray)} {j : Nat} {v : Value} (h : (flat l)[j]? = some v) : ∃ (i : Nat) (x y : ByteArray), l[i]? = some (x, y) ∧ ((j = i * 2 ∧ v = .string x) ∨ (j = i * 2 + 1 ∧ v = .string y)) := by
  induction l generalizing j with
  | nil => simp [flat] at h
  | cons p l ih =>
    obtain ⟨x, y⟩ := p
    have e : flat ((x, y) :: l) = .string x :: .string y :: flat l := rfl
    rw [e] at h
    match j with
    | 0 => exact ⟨0, x, y, rfl, .inl ⟨rfl, by simpa using h.symm⟩⟩
    | 1 => exact ⟨0, x, y, rfl, .inr ⟨rfl, by simpa using h.symm⟩⟩
    | j + 2 =>
      obtain ⟨i, x', y', hi, hj⟩ := ih (j := j) (by simpa using h)
      refine ⟨i + 1, x', y', by simpa using hi, ?_⟩
      rcases hj with ⟨h1, h2⟩ | ⟨h1, h2⟩
      · exact .inl ⟨by omega, h2⟩
      · exact .inr ⟨by omega, h2⟩
theorem flat_oneCell (l : List (ByteArray × ByteArray)) : ∀ u ∈ flat l, u.oneCell' = true := by
  intro u hu
  simp only [flat, List.mem_flatMap] at hu
  obtain ⟨p, _, hp⟩ := hu
  simp at hp
  rcases hp with rfl | rfl <;> rfl
theorem strs_oneCell (l : List ByteArray) : ∀ u ∈ l.map Value.string, u.oneCell' = true := by
  intro u hu
  obtain ⟨s, _, rfl⟩ := List.mem_map.1 hu
  rfl
/-- A slice of pairs, in a round: its two cells. -/
theorem Row.pair {w : World} {A : Option Addr} {l : List (ByteArray × ByteArray)} {k : Nat} {x y : ByteArray} (h : Row w A (flat l)) (hk : l[k]? = some (x, y)) :
    ∃ b off, A = some ⟨b, off, none⟩ ∧ b < w.heap.size ∧ w.cell? ⟨b, off + k * 2, none⟩ = some (.string x) ∧ w.cell? ⟨b, off + k * 2 + 1, none⟩ = some (.string y) := by
  obtain ⟨h0, h1⟩ := flat_get hk
  obtain ⟨b, off, e, hb, hc⟩ := h.at_ h0
  exact ⟨b, off, e, hb, hc _ _ h0, by rw [Nat.add_assoc]; exact hc _ _ h1⟩
/-- A slice of texts, in a round. -/
theorem Row.str {w : World} {A : Option Addr} {l : List ByteArray} {k : Nat} {x : ByteArray} (h : Row w A (l.map .string)) (hk : l[k]? = some x) :
    ∃ b off, A = some ⟨b, off, none⟩ ∧ b < w.heap.size ∧ w.cell? ⟨b, off + k, none⟩ = some (.string x) := by
  have h0 : (l.map Value.string)[k]? = some (.string x) := by rw [List.getElem?_map, hk]; rfl
  obtain ⟨b, off, e, hb, hc⟩ := h.at_ h0
  exact ⟨b, off, e, hb, hc _ _ h0⟩
theorem some_of_lt {α : Type} {l : List α} {k : Nat} (h : k < l.length) : ∃ x, l[k]? = some x := ⟨l[k], List.getElem?_eq_getElem h⟩
theorem take_snoc {α : Type} {l : List α} {k : Nat} {x : α} (h : l[k]? = some x) : l.take (k + 1) = l.take k ++ [x] := by
  obtain ⟨hk, rfl⟩ := List.getElem?_eq_some_iff.1 h
  exact List.take_succ_eq_append_getElem hk
theorem lt_of_some {α : Type} {l : List α} {k : Nat} {x : α} (h : l[k]? = some x) : k < l.length := (List.getElem?_eq_some_iff.1 h).1

abbrev Fl := ByteArray × ByteArray
/-- All texts of a list are no longer than a text can be. -/
def Wide (l : List Fl) : Prop := ∀ p ∈ l, p.1.size ≤ maxLen ∧ p.2.size ≤ maxLen
theorem Wide.at_ {l : List Fl} (h : Wide l) {k : Nat} {x y : ByteArray} (hk : l[k]? = some (x, y)) : x.size ≤ maxLen ∧ y.size ≤ maxLen := h _ (List.mem_of_getElem? hk)

/-! What a call owns. -/
section
variable {w w' : World} {base : Nat} {e : TypeId} {size n : Nat} {v : Value} {xs : List Value}
theorem own_below (h : w.ownsRow base e size v n xs) (hb : Below w.heap.size w w') : w'.ownsRow base e size v n xs :=
  h.kept (row := none) ⟨hb.os, hb.tape, hb.output, hb.size, fun k hk _ => hb.block k hk⟩ (by
    cases hv : v.ownBlock with
    | none => exact .inl rfl
    | some k => exact .inr (by simp))
theorem own_slice (h : w.ownsRow base e size v n xs) : ∃ A c, v = .slice A n c := by
  rcases h.2 with ⟨rfl, rfl⟩ | ⟨g, cap, cur, rfl, _⟩
  · exact ⟨none, 0, rfl⟩
  · exact ⟨_, _, rfl⟩
theorem own_row {A : Option Addr} {c : Nat} (h : w.ownsRow base e size (.slice A n c) n xs) : Row w A xs := fun hx => by
  have hn : 0 < n := by
    rcases Nat.eq_zero_or_pos n with h0 | h0
    · subst h0
      have := h.1
      simp at this
      rw [this] at hx
      simp at hx
    · exact h0
  obtain ⟨g, cap, hv, _, hlt⟩ := h.form hn
  have hA : A = some ⟨g, 0, none⟩ := by injection hv
  subst hA
  refine ⟨g, 0, rfl, hlt, fun j u hu => ?_⟩
  have := h.cells (g := g) rfl j u hu
  rw [Nat.zero_add]
  unfold Addr.add at this
  split at this
  · rename_i h0
    rw [h0]
    exact this
  · simpa using this
theorem own_cap {A : Option Addr} {cap : Nat} (h : w.ownsRow base e size (.slice A n cap) n xs) : n ≤ cap := by
  rcases h.2 with ⟨hv, hn⟩ | ⟨g, cap', cur, hv, _, _, hc, _⟩
  · omega
  · injection hv with _ _ hv
    omega
theorem own_lt (h : w.ownsRow base e size v n xs) : ∀ k, v.ownBlock = some k → base ≤ k := fun k hk => (h.lt k hk).1
/-- What is built by a literal or by 'append' behind a box. -/
theorem grown_below {B : Nat} {row : Option Nat} (hb : Below B w w') {w2 : World} (hg : w'.grownBy w2 row) (hB : B ≤ w'.heap.size) (hr : ∀ k, row = some k → B ≤ k) : Below B w w2 := hb.grown hg hB hr
end
end Go.Proofs.YtiohmnhbmmhnhaaGreatDoor
