/-
 TgH, without what this claim does not reach.
-/
import Derived.Test.YtiohmnhbmmhnhaaGreatDoorZTgC
import Derived.Lib.ItoaNum
namespace Go.Proofs.YtiohmnhbmmhnhaaGreatDoor
def itoaT (n : Int) : ByteArray := ⟨(Lib.itoa n).toArray⟩
def byteNum (s : ByteArray) : Bool := decide ((numR s 255 10).2 = 0) && decide (itoaT (numR s 255 10).1 = s)
def quad (s : ByteArray) : Bool := (splitC s 46).all byteNum && decide ((splitC s 46).length = 4)
def hexGroup (g : ByteArray) : Bool := decide (0 < g.size) && (decide (g.size ≤ 4) && allB isHexB g)
def groupsL (last : Bool) : List ByteArray → Int
 | [] => 0
 | g :: r => if hexGroup g = true then (if groupsL last r < 0 then -1 else 1 + groupsL last r) else if last = true ∧ r = [] ∧ quad g = true then 2 else -1
theorem groupsL_range (last : Bool) : ∀ l : List ByteArray, -1 ≤ groupsL last l ∧ groupsL last l ≤ l.length + 1
 | [] => by simp [groupsL]
 | g :: r => by
  have := groupsL_range last r
  unfold groupsL
  rw [List.length_cons]
  split
  ·split <;> omega
  ·split <;> omega
def GroupsAt (l : List ByteArray) (k : Nat) : Prop := ∀ g ∈ l.take k, hexGroup g = true
theorem GroupsAt.zero (l : List ByteArray) : GroupsAt l 0 := fun g h => by simp at h
theorem groupsL_app {last : Bool} : ∀ (l m : List ByteArray), (∀ g ∈ l, hexGroup g = true) → groupsL last (l ++ m) = if groupsL last m < 0 then -1 else l.length + groupsL last m
 | [], m, _ => by
  have := (groupsL_range last m).1
  split <;> simp <;> omega
 | g :: l, m, h => by
  have ih := groupsL_app (last := last) l m fun x hx => h x (List.mem_cons_of_mem _ hx)
  have hg := h g (by simp)
  rw [List.cons_append, groupsL, if_pos hg, ih, List.length_cons]
  split
  ·rw [if_pos (by omega)]
  ·rw [if_neg (by omega)]; omega
section
variable {last : Bool} {l : List ByteArray} {k : Nat} {g : ByteArray}
theorem GroupsAt.succ (h : GroupsAt l k) (hk : l[k]? = some g) (hg : hexGroup g = true) : GroupsAt l (k + 1) := fun x hx => by
 obtain ⟨hlt, rfl⟩ := List.getElem?_eq_some_iff.1 hk
 rw [List.take_succ_eq_append_getElem hlt] at hx
 rcases List.mem_append.1 hx with hx | hx
 ·exact h x hx
 ·obtain rfl : x = l[k] := by simpa using hx
  exact hg
theorem GroupsAt.all (h : GroupsAt l l.length) : groupsL last l = l.length := by
 have := groupsL_app (last := last) l [] (by intro x hx; exact h x (by rw [List.take_length]; exact hx))
 rw [List.append_nil] at this
 rw [this]
 simp [groupsL]
theorem drop_get {α : Type} {l : List α} {k : Nat} {x : α} (hk : l[k]? = some x) : l.drop k = x :: l.drop (k + 1) := by
 obtain ⟨hlt, rfl⟩ := List.getElem?_eq_some_iff.1 hk
 exact List.drop_eq_getElem_cons hlt
theorem GroupsAt.bad (h : GroupsAt l k) (hk : l[k]? = some g) (hg : hexGroup g = false) (hq : last = false ∨ k + 1 < l.length ∨ quad g = false) : groupsL last l = -1 := by
 have e := groupsL_app (last := last) (l.take k) (l.drop k) h
 rw [List.take_append_drop, drop_get hk] at e
 have : groupsL last (g :: l.drop (k + 1)) = -1 := by
  rw [groupsL, if_neg (by rw [hg]; simp), if_neg]
  rintro ⟨h1, h2, h3⟩
  rcases hq with h | h | h
  ·rw [h] at h1; cases h1
  ·have := List.drop_eq_nil_iff.1 h2; omega
  ·rw [h] at h3; cases h3
 rw [e, this, if_pos (by omega)]
theorem GroupsAt.quad (h : GroupsAt l k) (hk : l[k]? = some g) (hl : k + 1 = l.length) (hg : hexGroup g = false) (hq : quad g = true) : groupsL true l = k + 2 := by
 have e := groupsL_app (last := true) (l.take k) (l.drop k) h
 have hd : l.drop (k + 1) = [] := List.drop_eq_nil_iff.2 (by omega)
 rw [List.take_append_drop, drop_get hk] at e
 have : groupsL true (g :: l.drop (k + 1)) = 2 := by
  rw [groupsL, if_neg (by rw [hg]; simp), if_pos ⟨rfl, hd, hq⟩]
 rw [e, this, if_neg (by omega), List.length_take]
 omega
end
end Go.Proofs.YtiohmnhbmmhnhaaGreatDoor
