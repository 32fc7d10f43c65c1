/-
 RxP, without what this claim does not reach.
-/
import Derived.Test.YtiohmnhbmmhnhaaGreatDoorZTgC
namespace Go.Proofs.YtiohmnhbmmhnhaaGreatDoor
abbrev Pc := Int × ByteArray
def letB (c : Int) : Bool := (decide (97 ≤ c) && decide (c ≤ 122)) || (decide (65 ≤ c) && decide (c ≤ 90))
def digB (c : Int) : Bool := decide (48 ≤ c) && decide (c ≤ 57)
def nameB (c : Int) : Bool := letB c || (digB c || decide (c = 95))
def signP (c : Int) : Bool := hostSign c || (decide (c = 58) || decide (c = 64))
def statGo (s : ByteArray) : Nat → Nat → Nat × Bool
 | 0, i => (i, true)
 | n + 1, i => if i < s.size ∧ ¬ bt s i = 47 then
   (if bt s i = 37 then
    (if i + 1 < s.size ∧ isHexB (bt s (i + 1)) = true then
     (if i + 2 < s.size ∧ isHexB (bt s (i + 2)) = true then statGo s n (i + 3) else (i + 2, false))
    else (i + 1, false))
   else if signP (bt s i) = true then statGo s n (i + 1) else (i, false))
  else (i, true)
theorem statGo_more (s : ByteArray) : ∀ (n i : Nat), s.size - i ≤ n → statGo s n i = statGo s (n + 1) i
 | 0, i, h => by
  unfold statGo
  rw [if_neg (by omega)]
 | n + 1, i, h => by
  conv => lhs; unfold statGo
  conv => rhs; unfold statGo
  split
  ·split
   ·split
    ·split
     ·exact statGo_more s n (i + 3) (by omega)
     ·rfl
    ·rfl
   ·split
    ·exact statGo_more s n (i + 1) (by omega)
    ·rfl
  ·rfl
theorem statGo_eq (s : ByteArray) (i : Nat) : ∀ (d n : Nat), s.size - i ≤ n → statGo s (n + d) i = statGo s n i
 | 0, _, _ => rfl
 | d + 1, n, h => by rw [← Nat.add_assoc, ← statGo_more s (n + d) i (by omega)]; exact statGo_eq s i d n h
def statE (s : ByteArray) (i : Nat) : Nat × Bool := statGo s (s.size - i) i
section
variable {s : ByteArray} {i : Nat}
theorem statE_go {n : Nat} (h : s.size - i ≤ n) : statGo s n i = statE s i := by
 have := statGo_eq s i (n - (s.size - i)) (s.size - i) (Nat.le_refl _)
 rw [show s.size - i + (n - (s.size - i)) = n from by omega] at this
 exact this
theorem statE_step : statE s i = if i < s.size ∧ ¬ bt s i = 47 then
   (if bt s i = 37 then
    (if i + 1 < s.size ∧ isHexB (bt s (i + 1)) = true then
     (if i + 2 < s.size ∧ isHexB (bt s (i + 2)) = true then statE s (i + 3) else (i + 2, false))
    else (i + 1, false))
   else if signP (bt s i) = true then statE s (i + 1) else (i, false))
  else (i, true) := by
 rw [← statE_go (n := s.size + 1) (by omega)]
 conv => lhs; unfold statGo
 rw [statE_go (i := i + 3) (by omega), statE_go (i := i + 1) (by omega)]
theorem statE_end (h : s.size ≤ i ∨ bt s i = 47) : statE s i = (i, true) := by
 rw [statE_step, if_neg (by rintro ⟨h1, h2⟩; rcases h with h | h <;> omega)]
theorem statE_on (h : i < s.size) (h1 : ¬ bt s i = 47) (h2 : ¬ bt s i = 37) (h3 : signP (bt s i) = true) : statE s i = statE s (i + 1) := by
 rw [statE_step, if_pos ⟨h, h1⟩, if_neg h2, if_pos h3]
theorem statE_no (h : i < s.size) (h1 : ¬ bt s i = 47) (h2 : ¬ bt s i = 37) (h3 : signP (bt s i) = false) : statE s i = (i, false) := by
 rw [statE_step, if_pos ⟨h, h1⟩, if_neg h2, if_neg (by rw [h3]; simp)]
theorem statE_one (h : i < s.size) (h2 : bt s i = 37) (h3 : ¬ (i + 1 < s.size ∧ isHexB (bt s (i + 1)) = true)) : statE s i = (i + 1, false) := by
 rw [statE_step, if_pos ⟨h, by omega⟩, if_pos h2, if_neg h3]
theorem statE_two (h2 : bt s i = 37) (h3 : i + 1 < s.size ∧ isHexB (bt s (i + 1)) = true) (h4 : ¬ (i + 2 < s.size ∧ isHexB (bt s (i + 2)) = true)) : statE s i = (i + 2, false) := by
 rw [statE_step, if_pos ⟨by omega, by omega⟩, if_pos h2, if_pos h3, if_neg h4]
theorem statE_tri (h2 : bt s i = 37) (h3 : i + 1 < s.size ∧ isHexB (bt s (i + 1)) = true) (h4 : i + 2 < s.size ∧ isHexB (bt s (i + 2)) = true) : statE s i = statE s (i + 3) := by
 rw [statE_step, if_pos ⟨by omega, by omega⟩, if_pos h2, if_pos h3, if_pos h4]
end
theorem statE_spec (s : ByteArray) : ∀ (n i : Nat), s.size - i ≤ n → i ≤ s.size → i ≤ (statE s i).1 ∧ (statE s i).1 ≤ s.size ∧ ((statE s i).2 = true → (statE s i).1 < s.size → bt s (statE s i).1 = 47) ∧ ((statE s i).2 = true → ∀ j, i ≤ j → j < (statE s i).1 → ¬ bt s j = 47)
 | n, i, hn, hi => by
  rw [statE_step]
  split
  ·rename_i h
   split
   ·rename_i h2
    split
    ·rename_i h3
     split
     ·rename_i h4
      match n, hn with
      | 0, hn => omega
      | n + 1, hn =>
       obtain ⟨a, b, c, d⟩ := statE_spec s n (i + 3) (by omega) (by omega)
       refine ⟨by omega, b, c, fun hg j h5 h6 => ?_⟩
       by_cases e0 : j = i
       ·subst e0; exact h.2
       by_cases e1 : j = i + 1
       ·subst e1; intro e; rw [e] at h3; exact absurd h3.2 (by decide)
       by_cases e2 : j = i + 2
       ·subst e2; intro e; rw [e] at h4; exact absurd h4.2 (by decide)
       exact d hg j (by omega) h6
     ·exact ⟨by simp, by simp only; omega, fun h => (by cases h), fun h => (by cases h)⟩
    ·exact ⟨by simp, by simp only; omega, fun h => (by cases h), fun h => (by cases h)⟩
   ·split
    ·match n, hn with
     | 0, hn => omega
     | n + 1, hn =>
      obtain ⟨a, b, c, d⟩ := statE_spec s n (i + 1) (by omega) (by omega)
      refine ⟨by omega, b, c, fun hg j h5 h6 => ?_⟩
      by_cases e0 : j = i
      ·subst e0; exact h.2
      exact d hg j (by omega) h6
    ·exact ⟨Nat.le_refl _, hi, fun h => (by cases h), fun h => (by cases h)⟩
  ·rename_i h
   refine ⟨Nat.le_refl _, hi, fun _ h2 => ?_, fun _ j h5 h6 => ?_⟩
   ·by_cases e : bt s i = 47
    ·exact e
    ·exact absurd ⟨h2, e⟩ h
   ·exact absurd (Nat.lt_of_le_of_lt h5 h6) (Nat.lt_irrefl _)
def nameEnd (s : ByteArray) (i : Nat) : Nat := scan (fun j => nameB (bt s j)) i (s.size - i)
def nameE (s : ByteArray) (i : Nat) : Nat × Bool := if i < s.size ∧ letB (bt s i) = true then (nameEnd s i, true) else (i, false)
theorem nameE_no {s : ByteArray} {i : Nat} (h : ¬ (i < s.size ∧ letB (bt s i) = true)) : nameE s i = (i, false) := if_neg h
theorem nameE_yes {s : ByteArray} {i : Nat} (h : i < s.size ∧ letB (bt s i) = true) : nameE s i = (nameEnd s i, true) := if_pos h
theorem nameEnd_spec (s : ByteArray) (i : Nat) (hi : i ≤ s.size) : i ≤ nameEnd s i ∧ nameEnd s i ≤ s.size ∧ (∀ j, i ≤ j → j < nameEnd s i → nameB (bt s j) = true) ∧ (nameEnd s i < s.size → nameB (bt s (nameEnd s i)) = false) := by
 obtain ⟨a, b, c, d⟩ := scan_spec (fun j => nameB (bt s j)) (s.size - i) i
 exact ⟨a, by unfold nameEnd; omega, c, fun h => d (by unfold nameEnd at h; omega)⟩
theorem nameEnd_eq {s : ByteArray} {i k : Nat} (h1 : i ≤ k) (h2 : k ≤ s.size) (h3 : ∀ j, i ≤ j → j < k → nameB (bt s j) = true) (h4 : k < s.size → nameB (bt s k) = false) : nameEnd s i = k :=
 scan_eq h1 (by omega) h3 (fun h => h4 (by omega))
theorem nameE_spec (s : ByteArray) (i : Nat) (hi : i ≤ s.size) : i ≤ (nameE s i).1 ∧ (nameE s i).1 ≤ s.size := by
 unfold nameE
 split
 ·have := nameEnd_spec s i hi; exact ⟨this.1, this.2.1⟩
 ·exact ⟨Nat.le_refl _, hi⟩
def kindAt (s : ByteArray) (i : Nat) : Int := if i < s.size ∧ bt s i = 58 then 1 else if i < s.size ∧ bt s i = 42 then 2 else 0
def fromAt (s : ByteArray) (i : Nat) : Nat := if kindAt s i = 0 then i else i + 1
def endAt (s : ByteArray) (i : Nat) : Nat × Bool := if kindAt s i = 0 then statE s i else nameE s (i + 1)
def pcAt (s : ByteArray) (i : Nat) : Pc := (kindAt s i, s.extract (fromAt s i) (endAt s i).1)
def wrongAt (s : ByteArray) (i : Nat) : Bool := !(endAt s i).2 || (decide ((endAt s i).1 < s.size) && (decide (kindAt s i = 2) || !decide (bt s (endAt s i).1 = 47)))
def sameName (p x : Pc) : Bool := !decide (x.1 = 0) && decide (x.2 = p.2)
def twice (l : List Pc) (p : Pc) : Bool := !decide (p.1 = 0) && l.any (sameName p)
theorem kind_cases (s : ByteArray) (i : Nat) : (kindAt s i = 0 ∧ ¬ (i < s.size ∧ bt s i = 58) ∧ ¬ (i < s.size ∧ bt s i = 42)) ∨ (kindAt s i = 1 ∧ i < s.size ∧ bt s i = 58) ∨ (kindAt s i = 2 ∧ i < s.size ∧ bt s i = 42) := by
 unfold kindAt
 split
 ·rename_i h; exact .inr (.inl ⟨rfl, h⟩)
 ·rename_i h
  split
  ·rename_i h2; exact .inr (.inr ⟨rfl, h2⟩)
  ·rename_i h2; exact .inl ⟨rfl, h, h2⟩
theorem endAt_spec (s : ByteArray) (i : Nat) (hi : i ≤ s.size) : fromAt s i ≤ (endAt s i).1 ∧ (endAt s i).1 ≤ s.size := by
 unfold endAt fromAt
 rcases kind_cases s i with ⟨h, _⟩ | ⟨h, h2, _⟩ | ⟨h, h2, _⟩
 ·rw [if_pos h, if_pos h]; have := statE_spec s _ i (Nat.le_refl _) hi; exact ⟨this.1, this.2.1⟩
 ·rw [if_neg (by omega), if_neg (by omega)]; exact nameE_spec s (i + 1) (by omega)
 ·rw [if_neg (by omega), if_neg (by omega)]; exact nameE_spec s (i + 1) (by omega)
theorem fromAt_ge (s : ByteArray) (i : Nat) : i ≤ fromAt s i := by unfold fromAt; split <;> omega
abbrev Rd := List Pc × Nat × Bool
def readGo (s : ByteArray) : Nat → List Pc → Nat → Rd
 | 0, l, _ => (l, 0, true)
 | n + 1, l, a => if a < s.size then (if (wrongAt s (a + 1) || twice l (pcAt s (a + 1))) = true then ([], (endAt s (a + 1)).1, false) else readGo s n (l ++ [pcAt s (a + 1)]) (endAt s (a + 1)).1) else (l, 0, true)
theorem readGo_more (s : ByteArray) : ∀ (n : Nat) (l : List Pc) (a : Nat), s.size - a ≤ n → readGo s n l a = readGo s (n + 1) l a
 | 0, l, a, h => by
  unfold readGo
  rw [if_neg (by omega)]
 | n + 1, l, a, h => by
  conv => lhs; unfold readGo
  conv => rhs; unfold readGo
  split
  ·split
   ·rfl
   ·have h1 := endAt_spec s (a + 1) (by omega)
    have h2 := fromAt_ge s (a + 1)
    exact readGo_more s n _ _ (by omega)
  ·rfl
theorem readGo_eq (s : ByteArray) (l : List Pc) (a : Nat) : ∀ (d n : Nat), s.size - a ≤ n → readGo s (n + d) l a = readGo s n l a
 | 0, _, _ => rfl
 | d + 1, n, h => by rw [← Nat.add_assoc, ← readGo_more s (n + d) l a (by omega)]; exact readGo_eq s l a d n h
def readF (s : ByteArray) (l : List Pc) (a : Nat) : Rd := readGo s (s.size - a) l a
section
variable {s : ByteArray} {l : List Pc} {a : Nat}
theorem readF_go {n : Nat} (h : s.size - a ≤ n) : readGo s n l a = readF s l a := by
 have := readGo_eq s l a (n - (s.size - a)) (s.size - a) (Nat.le_refl _)
 rw [show s.size - a + (n - (s.size - a)) = n from by omega] at this
 exact this
theorem readF_end (h : s.size ≤ a) : readF s l a = (l, 0, true) := by
 rw [← readF_go (n := s.size + 1) (by omega)]
 unfold readGo
 rw [if_neg (by omega)]
theorem readF_bad (h : a < s.size) (hb : (wrongAt s (a + 1) || twice l (pcAt s (a + 1))) = true) : readF s l a = ([], (endAt s (a + 1)).1, false) := by
 rw [← readF_go (n := s.size + 1) (by omega)]
 unfold readGo
 rw [if_pos h, if_pos hb]
theorem readF_on (h : a < s.size) (hb : (wrongAt s (a + 1) || twice l (pcAt s (a + 1))) = false) : readF s l a = readF s (l ++ [pcAt s (a + 1)]) (endAt s (a + 1)).1 := by
 rw [← readF_go (n := s.size + 1) (by omega)]
 unfold readGo
 have h1 := endAt_spec s (a + 1) (by omega)
 have h2 := fromAt_ge s (a + 1)
 rw [if_pos h, if_neg (by rw [hb]; simp), readF_go (by omega)]
end
theorem readF_spec (s : ByteArray) : ∀ (n : Nat) (l : List Pc) (a : Nat), s.size - a ≤ n → (readF s l a).2.2 = false → a < (readF s l a).2.1 ∧ (readF s l a).2.1 ≤ s.size ∧ (readF s l a).1 = []
 | n, l, a, hn, h => by
  by_cases ha : a < s.size
  ·have h1 := endAt_spec s (a + 1) (by omega)
   have h2 := fromAt_ge s (a + 1)
   cases hb : (wrongAt s (a + 1) || twice l (pcAt s (a + 1)))
   ·rw [readF_on ha hb] at h ⊢
    match n, hn with
    | 0, hn => omega
    | n + 1, hn =>
     have := readF_spec s n _ _ (by omega) h
     exact ⟨by omega, this.2⟩
   ·rw [readF_bad ha hb]
    exact ⟨by simp only; omega, by simp only; omega, rfl⟩
  ·rw [readF_end (by omega)] at h
   cases h
theorem readF_good (s : ByteArray) : ∀ (n : Nat) (l : List Pc) (a : Nat), s.size - a ≤ n → (readF s l a).2.2 = true → (readF s l a).2.1 = 0
 | n, l, a, hn, h => by
  by_cases ha : a < s.size
  ·have h1 := endAt_spec s (a + 1) (by omega)
   have h2 := fromAt_ge s (a + 1)
   cases hb : (wrongAt s (a + 1) || twice l (pcAt s (a + 1)))
   ·rw [readF_on ha hb] at h ⊢
    match n, hn with
    | 0, hn => omega
    | n + 1, hn => exact readF_good s n _ _ (by omega) h
   ·rw [readF_bad ha hb] at h
    cases h
  ·rw [readF_end (by omega)]
def readP (s : ByteArray) : Rd := if 0 < s.size ∧ bt s 0 = 47 then readF s [] 0 else ([], 0, false)
def capP (n : Nat) (r : Rd) : Rd := if 1024 < n ∧ (r.2.2 = true ∨ 1024 < r.2.1) then ([], 1024, false) else r
def splitP (s : ByteArray) : Rd := capP s.size (readP s)
def chkR (r : Rd) : Int × Int := if r.2.2 = true then (0, 0) else ((r.2.1 : Int), 130)
def checkP (s : ByteArray) : Int × Int := chkR (splitP s)
theorem readP_no {s : ByteArray} (h : ¬ (0 < s.size ∧ bt s 0 = 47)) : readP s = ([], 0, false) := if_neg h
theorem readP_yes {s : ByteArray} (h : 0 < s.size ∧ bt s 0 = 47) : readP s = readF s [] 0 := if_pos h
theorem readP_spec (s : ByteArray) : ((readP s).2.2 = false → (readP s).2.1 ≤ s.size ∧ (readP s).1 = []) ∧ ((readP s).2.2 = true → (readP s).2.1 = 0) := by
 unfold readP
 split
 ·exact ⟨fun h => (readF_spec s _ [] 0 (Nat.le_refl _) h).2, readF_good s _ [] 0 (Nat.le_refl _)⟩
 ·exact ⟨fun _ => ⟨Nat.zero_le _, rfl⟩, fun h => by cases h⟩
theorem chk_big {n : Nat} {r : Rd} (hn : 1024 < n) (hr : r.2.2 = false → 1024 ≤ r.2.1) : chkR (capP n r) = (1024, 130) := by
 unfold capP
 by_cases h : r.2.2 = true ∨ 1024 < r.2.1
 ·rw [if_pos ⟨hn, h⟩]; rfl
 ·rw [if_neg (fun x => h x.2)]
  have h2 : r.2.2 = false := by
   cases e : r.2.2
   ·rfl
   ·exact absurd (Or.inl e) h
  have h3 := hr h2
  have h4 : r.2.1 = 1024 := by
   have : ¬ 1024 < r.2.1 := fun x => h (Or.inr x)
   omega
  unfold chkR
  rw [if_neg (by rw [h2]; simp), h4]
  rfl
theorem chk_bad {n p : Nat} (hp : p ≤ n) (l : List Pc) : chkR (capP n (l, p, false)) = (((min p 1024 : Nat) : Int), 130) := by
 unfold capP
 by_cases h : 1024 < p
 ·rw [if_pos ⟨by omega, Or.inr h⟩, show min p 1024 = 1024 by omega]; rfl
 ·rw [if_neg (by rintro ⟨_, h2 | h2⟩ <;> simp at h2; omega), show min p 1024 = p by omega]; rfl
theorem chk_good {n : Nat} (hn : n ≤ 1024) (l : List Pc) (p : Nat) : chkR (capP n (l, p, true)) = (0, 0) := by
 unfold capP
 rw [if_neg (by omega)]
 rfl
end Go.Proofs.YtiohmnhbmmhnhaaGreatDoor
