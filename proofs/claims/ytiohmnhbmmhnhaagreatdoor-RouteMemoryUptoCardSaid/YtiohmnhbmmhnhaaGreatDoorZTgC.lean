/-
 TgC, without what this claim does not reach.
-/
import Derived.Test.YtiohmnhbmmhnhaaGreatDoorZTgP
import Derived.Lib.SplitLaws
namespace Go.Proofs.YtiohmnhbmmhnhaaGreatDoor
theorem indexB_one (s : ByteArray) (c : UInt8) : Lib.indexB s ⟨#[c]⟩ = findB s (c.toNat : Int) := by
 have h := indexByte_eq s (c.toNat : Int) (by omega) (by have := c.toNat_lt; omega)
 rw [show ((c.toNat : Int)).toNat.toUInt8 = c by simp] at h
 rw [← h]
 exact Lib.index_one _ _
def cutW (s : ByteArray) (c : Int) : ByteArray × ByteArray × Bool := if place s c < s.size then (s.extract 0 (place s c), s.extract (place s c + 1) s.size, true) else (s, ⟨#[]⟩, false)
section
variable {s : ByteArray} {c : Int} {k : Nat}
theorem cutW_hit (hk : k < s.size) (hp : place s c = k) : cutW s c = (s.extract 0 k, s.extract (k + 1) s.size, true) := by unfold cutW; rw [hp, if_pos hk]
theorem cutW_miss (hp : place s c = s.size) : cutW s c = (s, ⟨#[]⟩, false) := by unfold cutW; rw [hp, if_neg (by omega)]
theorem place_at (hk : k < s.size) (hb : bt s k = c) (hn : ∀ j, j < k → bt s j ≠ c) : place s c = k :=
 scan_stop (fun j _ hj => by simpa using hn j hj) (by omega) (by omega) (by simpa using hb)
theorem place_none (hn : ∀ j, j < s.size → bt s j ≠ c) : place s c = s.size := by
 have := scan_all (P := fun j => !decide (bt s j = c)) (a := 0) (n := s.size) (fun j _ hj => by simpa using hn j (by omega))
 rwa [Nat.zero_add] at this
theorem place_spec (s : ByteArray) (c : Int) : (place s c = s.size ∧ ∀ j, j < s.size → bt s j ≠ c) ∨ (∃ k, place s c = k ∧ k < s.size ∧ bt s k = c ∧ ∀ j, j < k → bt s j ≠ c) := by
 rcases findB_cases s c with ⟨_, h, h2⟩ | ⟨k, hk, _, hp, hb, hn⟩
 ·exact .inl ⟨h, h2⟩
 ·exact .inr ⟨k, hp, hk, hb, hn⟩
end
theorem cut_eq (s : ByteArray) (c : UInt8) : (⟨(Lib.cut s.data.toList [c]).1.toArray⟩ : ByteArray) = (cutW s c.toNat).1 ∧ (⟨(Lib.cut s.data.toList [c]).2.1.toArray⟩ : ByteArray) = (cutW s c.toNat).2.1 ∧ (Lib.cut s.data.toList [c]).2.2 = (cutW s c.toNat).2.2 := by
 have hx := indexB_one s c
 rcases findB_cases s (c.toNat : Int) with ⟨h1, hp, _⟩ | ⟨k, hk, h1, hp, _, _⟩
 ·rw [h1] at hx
  have h := Lib.cutB_miss s ⟨#[c]⟩ hx
  rw [cutW_miss hp]
  exact h
 ·rw [h1] at hx
  have h := Lib.cutB_hit s ⟨#[c]⟩ k hx
  rw [cutW_hit hk hp]
  exact h
theorem cutW_size (s : ByteArray) (c : Int) : (cutW s c).1.size ≤ s.size ∧ (cutW s c).2.1.size ≤ s.size ∧ (cutW s c).1.size + (cutW s c).2.1.size ≤ s.size := by
 rcases place_spec s c with ⟨h, _⟩ | ⟨k, h, hk, _⟩
 ·rw [cutW_miss h]; exact ⟨Nat.le_refl _, Nat.zero_le _, Nat.le_refl _⟩
 ·rw [cutW_hit hk h]
  have h1 := ext_size s (a := 0) (b := k) (by omega) (by omega)
  have h2 := ext_size s (a := k + 1) (b := s.size) (by omega) (by omega)
  simp only
  omega
def splitGo (c : Int) : Nat → ByteArray → List ByteArray
 | 0, s => [s]
 | n + 1, s => if place s c < s.size then s.extract 0 (place s c) :: splitGo c n (s.extract (place s c + 1) s.size) else [s]
def splitC (s : ByteArray) (c : Int) : List ByteArray := splitGo c s.size s
theorem splitGo_more (c : Int) : ∀ (n : Nat) (s : ByteArray), s.size ≤ n → splitGo c n s = splitGo c (n + 1) s
 | 0, s, h => by
  unfold splitGo
  rw [if_neg (by omega)]
 | n + 1, s, h => by
  conv => lhs; unfold splitGo
  conv => rhs; unfold splitGo
  split
  ·rw [splitGo_more c n _ (by rw [ext_size s (by omega) (by omega)]; omega)]
  ·rfl
theorem splitGo_eq (c : Int) (s : ByteArray) : ∀ (d n : Nat), s.size ≤ n → splitGo c (n + d) s = splitGo c n s
 | 0, _, _ => rfl
 | d + 1, n, h => by rw [← Nat.add_assoc, ← splitGo_more c (n + d) s (by omega)]; exact splitGo_eq c s d n h
section
variable {s : ByteArray} {c : Int}
theorem splitC_go {n : Nat} (h : s.size ≤ n) : splitGo c n s = splitC s c := by
 have := splitGo_eq c s (n - s.size) s.size (Nat.le_refl _)
 rw [show s.size + (n - s.size) = n from by omega] at this
 exact this
theorem splitC_miss (h : place s c = s.size) : splitC s c = [s] := by
 rw [← splitC_go (n := s.size + 1) (by omega)]
 unfold splitGo
 rw [if_neg (by omega)]
theorem splitC_hit {k : Nat} (hk : k < s.size) (h : place s c = k) : splitC s c = s.extract 0 k :: splitC (s.extract (k + 1) s.size) c := by
 rw [← splitC_go (n := s.size + 1) (by omega)]
 unfold splitGo
 rw [h, if_pos hk, splitC_go (by rw [ext_size s (by omega) (by omega)]; omega)]
end
theorem splitC_ne (s : ByteArray) (c : Int) : splitC s c ≠ [] := by
 rcases place_spec s c with ⟨h, _⟩ | ⟨k, h, hk, _⟩
 ·rw [splitC_miss h]; simp
 ·rw [splitC_hit hk h]; simp
theorem splitB_eq (c : UInt8) : ∀ (n : Nat) (s : ByteArray), s.size ≤ n → Lib.splitB ⟨#[c]⟩ 0 (Lib.countB s ⟨#[c]⟩) s = splitC s c.toNat ∧ (splitC s c.toNat).length = Lib.countB s ⟨#[c]⟩ + 1
 | n, s, hn => by
  have hx := indexB_one s c
  rcases findB_cases s (c.toNat : Int) with ⟨h1, hp, _⟩ | ⟨k, hk, h1, hp, _, _⟩
  ·rw [h1] at hx
   rw [Lib.countB_miss s _ hx, splitC_miss hp]
   exact ⟨rfl, rfl⟩
  ·rw [h1] at hx
   have hz := ext_size s (a := k + 1) (b := s.size) (by omega) (by omega)
   have hc := Lib.countB_hit s ⟨#[c]⟩ k (by show 1 ≤ 1; omega) hx
   match n, hn with
   | 0, hn => omega
   | n + 1, hn =>
    obtain ⟨ih1, ih2⟩ := splitB_eq c n (s.extract (k + 1) s.size) (by omega)
    have hc' : Lib.countB s ⟨#[c]⟩ = Lib.countB (s.extract (k + 1) s.size) ⟨#[c]⟩ + 1 := by rw [hc, Nat.add_comm]; rfl
    rw [hc', splitC_hit hk hp, Lib.splitB_hit _ _ _ _ _ hx]
    refine ⟨?_, by rw [List.length_cons, ih2]⟩
    rw [← ih1]
    rfl
def sumS (l : List ByteArray) : Nat := (l.map (·.size)).sum
theorem sumS_cons (x : ByteArray) (l : List ByteArray) : sumS (x :: l) = x.size + sumS l := by simp [sumS]
theorem sumS_append (l m : List ByteArray) : sumS (l ++ m) = sumS l + sumS m := by simp [sumS]
theorem sumS_mem {l : List ByteArray} {x : ByteArray} (h : x ∈ l) : x.size ≤ sumS l := by
 induction l with
 | nil => cases h
 | cons y l ih =>
  rw [sumS_cons]
  rcases List.mem_cons.1 h with rfl | h
  ·omega
  ·have := ih h; omega
theorem splitC_sum (c : Int) : ∀ (n : Nat) (s : ByteArray), s.size ≤ n → sumS (splitC s c) + (splitC s c).length = s.size + 1
 | n, s, hn => by
  rcases place_spec s c with ⟨h, _⟩ | ⟨k, h, hk, _⟩
  ·rw [splitC_miss h]; simp [sumS]
  ·rw [splitC_hit hk h, sumS_cons, List.length_cons]
   have h1 := ext_size s (a := 0) (b := k) (by omega) (by omega)
   have h2 := ext_size s (a := k + 1) (b := s.size) (by omega) (by omega)
   match n, hn with
   | 0, hn => omega
   | n + 1, hn =>
    have := splitC_sum c n (s.extract (k + 1) s.size) (by omega)
    omega
theorem splitC_len (s : ByteArray) (c : Int) : (splitC s c).length ≤ s.size + 1 := by have := splitC_sum c s.size s (Nat.le_refl _); omega
theorem splitC_size {s : ByteArray} {c : Int} {x : ByteArray} (h : x ∈ splitC s c) : x.size ≤ s.size := by
 have := splitC_sum c s.size s (Nat.le_refl _)
 have h1 := sumS_mem h
 have := List.length_pos_of_mem h
 omega
end Go.Proofs.YtiohmnhbmmhnhaaGreatDoor
