/-
 TgP, without what this claim does not reach.
-/
import Derived.Test.YtiohmnhbmmhnhaaGreatDoorZPlain
namespace Go.Proofs.YtiohmnhbmmhnhaaGreatDoor
def inB (t : ByteArray) (c : Int) : Bool := !allB (fun b => !decide (b = c)) t
theorem inB_find (t : ByteArray) (c : Int) : (inB t c = true → 0 ≤ findB t c) ∧ (inB t c = false → findB t c = -1) := by
 rcases findB_cases t c with ⟨h1, _, h2⟩ | ⟨k, hk, h1, _, h2, _⟩
 ·have : allB (fun b => !decide (b = c)) t = true := allB_true fun j hj => by simpa using h2 j hj
  unfold inB
  rw [this, h1]
  exact ⟨fun h => by (cases h), fun _ => rfl⟩
 ·have : allB (fun b => !decide (b = c)) t = false := allB_false hk (by simpa using h2)
  unfold inB
  rw [this, h1]
  exact ⟨fun _ => by omega, fun h => by (cases h)⟩
def dashes : ByteArray := ⟨#[45, 46, 95, 126]⟩
def subs : ByteArray := ⟨#[33, 36, 38, 39, 40, 41, 42, 43, 44, 59, 61]⟩
def unres (c : Int) : Bool := alnum c || inB dashes c
def subd (c : Int) : Bool := inB subs c
def classI (c : Int) : Int := if unres c = true then 1 else if subd c = true then 2 else if c = 58 ∨ c = 64 then 4 else if c = 47 then 8 else if c = 63 then 16 else 0
theorem class_unres {c : Int} (h : unres c = true) : classI c = 1 := by unfold classI; rw [if_pos h]
theorem class_sub {c : Int} (h : unres c = false) (h2 : subd c = true) : classI c = 2 := by unfold classI; rw [if_neg (by rw [h]; simp), if_pos h2]
theorem class_one (c : Int) : (classI c == 1) = unres c := by
 unfold classI
 cases h : unres c
 ·rw [if_neg (by simp)]
  split
  ·rfl
  ·split
   ·rfl
   ·split
    ·rfl
    ·split <;> rfl
 ·rw [if_pos rfl]; rfl
def mayB (m : Int) (c : Int) : Bool := !(bits BinOp.and IntKind.i64 (classI c) m == 0)
def hostSign (c : Int) : Bool := unres c || subd c
def pathSign (c : Int) : Bool := hostSign c || (decide (c = 58) || decide (c = 64)) || decide (c = 47)
def querySign (c : Int) : Bool := pathSign c || decide (c = 63)
theorem may_tab : ∀ n : Nat, n < 256 → mayB 3 n = hostSign n ∧ mayB 15 n = pathSign n ∧ mayB 31 n = querySign n := by decide +kernel
theorem may_path {c : Int} (h0 : 0 ≤ c) (h1 : c < 256) : mayB 15 c = pathSign c := by
 obtain ⟨n, rfl⟩ := Int.eq_ofNat_of_zero_le h0
 exact (may_tab n (by omega)).2.1
theorem percent_no : hostSign 37 = false ∧ pathSign 37 = false ∧ querySign 37 = false := by decide +kernel
def isHexB (c : Int) : Bool := decide (0 ≤ digV c)
theorem isHexB_iff {c : Int} : isHexB c = true ↔ 0 ≤ digV c := by simp [isHexB]
def tri (s : ByteArray) (i : Nat) : Bool := decide (i + 2 < s.size) && (decide (bt s i = 37) && (isHexB (bt s (i + 1)) && isHexB (bt s (i + 2))))
def triV (s : ByteArray) (i : Nat) : Int := digV (bt s (i + 1)) * 16 + digV (bt s (i + 2))
theorem tri_iff {s : ByteArray} {i : Nat} : tri s i = true ↔ (i + 2 < s.size ∧ bt s i = 37 ∧ 0 ≤ digV (bt s (i + 1)) ∧ 0 ≤ digV (bt s (i + 2))) := by
 simp [tri, isHexB]
theorem tri_range {s : ByteArray} {i : Nat} (h : tri s i = true) : 0 ≤ triV s i ∧ triV s i < 256 := by
 obtain ⟨_, _, h1, h2⟩ := tri_iff.1 h
 have := digV_range (bt s (i + 1))
 have := digV_range (bt s (i + 2))
 unfold triV
 omega
theorem tri_short {s : ByteArray} {i : Nat} (h : s.size ≤ i + 2) : tri s i = false := by
 cases e : tri s i
 ·rfl
 ·have := (tri_iff.1 e).1; omega
theorem tri_other {s : ByteArray} {i : Nat} (h : bt s i ≠ 37) : tri s i = false := by
 cases e : tri s i
 ·rfl
 ·exact absurd (tri_iff.1 e).2.1 h
theorem tri_one {s : ByteArray} {i : Nat} (h : digV (bt s (i + 1)) < 0) : tri s i = false := by
 cases e : tri s i
 ·rfl
 ·have := (tri_iff.1 e).2.2.1; omega
theorem tri_two {s : ByteArray} {i : Nat} (h : digV (bt s (i + 2)) < 0) : tri s i = false := by
 cases e : tri s i
 ·rfl
 ·have := (tri_iff.1 e).2.2.2; omega
def stopGo (P : Int → Bool) (s : ByteArray) : Nat → Nat → Nat
 | 0, i => i
 | n + 1, i => if i < s.size then (if tri s i = true then stopGo P s n (i + 3) else if P (bt s i) = true then stopGo P s n (i + 1) else i) else i
theorem stopGo_more (P : Int → Bool) (s : ByteArray) : ∀ (n i : Nat), s.size - i ≤ n → stopGo P s n i = stopGo P s (n + 1) i
 | 0, i, h => by
  unfold stopGo
  rw [if_neg (by omega)]
 | n + 1, i, h => by
  conv => lhs; unfold stopGo
  conv => rhs; unfold stopGo
  split
  ·split
   ·exact stopGo_more P s n (i + 3) (by omega)
   ·split
    ·exact stopGo_more P s n (i + 1) (by omega)
    ·rfl
  ·rfl
theorem stopGo_eq (P : Int → Bool) (s : ByteArray) (i : Nat) : ∀ (d n : Nat), s.size - i ≤ n → stopGo P s (n + d) i = stopGo P s n i
 | 0, _, _ => rfl
 | d + 1, n, h => by rw [← Nat.add_assoc, ← stopGo_more P s (n + d) i (by omega)]; exact stopGo_eq P s i d n h
def stopF (P : Int → Bool) (s : ByteArray) (i : Nat) : Nat := stopGo P s (s.size - i) i
section
variable {P : Int → Bool} {s : ByteArray} {i : Nat}
theorem stopF_go {n : Nat} (h : s.size - i ≤ n) : stopGo P s n i = stopF P s i := by
 have := stopGo_eq P s i (n - (s.size - i)) (s.size - i) (Nat.le_refl _)
 rw [show s.size - i + (n - (s.size - i)) = n from by omega] at this
 exact this
theorem stopF_end (h : s.size ≤ i) : stopF P s i = i := by
 unfold stopF
 rw [show s.size - i = 0 from by omega]
 rfl
theorem stopF_step (h : i < s.size) : stopF P s i = if tri s i = true then stopF P s (i + 3) else if P (bt s i) = true then stopF P s (i + 1) else i := by
 have e : s.size - i = (s.size - i - 1) + 1 := by omega
 conv => lhs; unfold stopF; rw [e]; unfold stopGo
 rw [if_pos h, stopF_go (by omega), stopF_go (by omega)]
theorem stopF_tri (h : tri s i = true) : stopF P s i = stopF P s (i + 3) := by
 have := (tri_iff.1 h).1
 rw [stopF_step (by omega), if_pos h]
theorem stopF_on (hi : i < s.size) (h : tri s i = false) (hp : P (bt s i) = true) : stopF P s i = stopF P s (i + 1) := by
 rw [stopF_step hi, if_neg (by rw [h]; simp), if_pos hp]
theorem stopF_stop (hi : i < s.size) (h : tri s i = false) (hp : P (bt s i) = false) : stopF P s i = i := by
 rw [stopF_step hi, if_neg (by rw [h]; simp), if_neg (by rw [hp]; simp)]
end
theorem stopF_range (P : Int → Bool) (s : ByteArray) : ∀ (n i : Nat), s.size - i ≤ n → i ≤ s.size → i ≤ stopF P s i ∧ stopF P s i ≤ s.size
 | 0, i, h, hi => by rw [stopF_end (by omega)]; omega
 | n + 1, i, h, hi => by
  by_cases hlt : i < s.size
  ·rw [stopF_step hlt]
   split
   ·rename_i ht
    have := (tri_iff.1 ht).1
    have := stopF_range P s n (i + 3) (by omega) (by omega)
    omega
   ·split
    ·have := stopF_range P s n (i + 1) (by omega) (by omega)
     omega
    ·omega
  ·rw [stopF_end (by omega)]; omega
theorem stopF_le (P : Int → Bool) (s : ByteArray) : stopF P s 0 ≤ s.size := (stopF_range P s s.size 0 (by omega) (by omega)).2
theorem stopF_congr {P Q : Int → Bool} (h : ∀ c, 0 ≤ c → c < 256 → P c = Q c) (s : ByteArray) : ∀ (n i : Nat), s.size - i ≤ n → stopF P s i = stopF Q s i
 | 0, i, hi => by rw [stopF_end (by omega), stopF_end (by omega)]
 | n + 1, i, hi => by
  by_cases hlt : i < s.size
  ·rw [stopF_step hlt, stopF_step hlt, h _ (bt_nonneg s i) (bt_lt s i), stopF_congr h s n (i + 3) (by omega), stopF_congr h s n (i + 1) (by omega)]
  ·rw [stopF_end (by omega), stopF_end (by omega)]
def pathStop (s : ByteArray) : Nat := stopF pathSign s 0
def wrongE (s : ByteArray) (i : Nat) (other : Int) : Int := if bt s i = 37 then 51 else other
def isPathB (s : ByteArray) : Bool := decide (0 < s.size) && (decide (bt s 0 = 47) && decide (pathStop s = s.size))
def byteAt (s : ByteArray) (i : Nat) : UInt8 := s.data.toList.getD i 0
def triB (s : ByteArray) (i : Nat) : UInt8 := UInt8.ofNat (triV s i).toNat
theorem triB_bt {s : ByteArray} {i : Nat} (h : tri s i = true) : ((triB s i).toNat : Int) = triV s i := by
 have := tri_range h
 unfold triB
 rw [UInt8.toNat_ofNat']
 omega
def decGo (s : ByteArray) : Nat → Nat → List UInt8 → List UInt8 × Nat × Bool
 | 0, _, acc => (acc, 0, true)
 | n + 1, i, acc => if i < s.size then (if bt s i = 37 then (if tri s i = true then decGo s n (i + 3) (acc ++ [triB s i]) else ([], i, false)) else decGo s n (i + 1) (acc ++ [byteAt s i])) else (acc, 0, true)
theorem decGo_more (s : ByteArray) : ∀ (n i : Nat) (acc : List UInt8), s.size - i ≤ n → decGo s n i acc = decGo s (n + 1) i acc
 | 0, i, acc, h => by
  unfold decGo
  rw [if_neg (by omega)]
 | n + 1, i, acc, h => by
  conv => lhs; unfold decGo
  conv => rhs; unfold decGo
  split
  ·split
   ·split
    ·exact decGo_more s n (i + 3) _ (by omega)
    ·rfl
   ·exact decGo_more s n (i + 1) _ (by omega)
  ·rfl
theorem decGo_eq (s : ByteArray) (i : Nat) (acc : List UInt8) : ∀ (d n : Nat), s.size - i ≤ n → decGo s (n + d) i acc = decGo s n i acc
 | 0, _, _ => rfl
 | d + 1, n, h => by rw [← Nat.add_assoc, ← decGo_more s (n + d) i acc (by omega)]; exact decGo_eq s i acc d n h
def decF (s : ByteArray) (i : Nat) (acc : List UInt8) : List UInt8 × Nat × Bool := decGo s (s.size - i) i acc
section
variable {s : ByteArray} {i : Nat} {acc : List UInt8}
theorem decF_go {n : Nat} (h : s.size - i ≤ n) : decGo s n i acc = decF s i acc := by
 have := decGo_eq s i acc (n - (s.size - i)) (s.size - i) (Nat.le_refl _)
 rw [show s.size - i + (n - (s.size - i)) = n from by omega] at this
 exact this
theorem decF_end (h : s.size ≤ i) : decF s i acc = (acc, 0, true) := by
 unfold decF
 rw [show s.size - i = 0 from by omega]
 rfl
theorem decF_step (h : i < s.size) : decF s i acc = if bt s i = 37 then (if tri s i = true then decF s (i + 3) (acc ++ [triB s i]) else ([], i, false)) else decF s (i + 1) (acc ++ [byteAt s i]) := by
 have e : s.size - i = (s.size - i - 1) + 1 := by omega
 conv => lhs; unfold decF; rw [e]; unfold decGo
 rw [if_pos h, decF_go (by omega), decF_go (by omega)]
theorem decF_tri (h : tri s i = true) : decF s i acc = decF s (i + 3) (acc ++ [triB s i]) := by
 obtain ⟨h1, h2, _⟩ := tri_iff.1 h
 rw [decF_step (by omega), if_pos h2, if_pos h]
theorem decF_on (hi : i < s.size) (hb : bt s i ≠ 37) : decF s i acc = decF s (i + 1) (acc ++ [byteAt s i]) := by
 rw [decF_step hi, if_neg hb]
theorem decF_bad (hi : i < s.size) (hb : bt s i = 37) (h : tri s i = false) : decF s i acc = ([], i, false) := by
 rw [decF_step hi, if_pos hb, if_neg (by rw [h]; simp)]
end
def decR (s : ByteArray) : ByteArray × Nat × Int := (⟨(decF s 0 []).1.toArray⟩, (decF s 0 []).2.1, if (decF s 0 []).2.2 = true then 0 else 51)
def upDigits : ByteArray := ⟨#[48, 49, 50, 51, 52, 53, 54, 55, 56, 57, 65, 66, 67, 68, 69, 70]⟩
def pct (b : UInt8) : List UInt8 := [37, upDigits.data.toList.getD (b.toNat / 16) 0, upDigits.data.toList.getD (b.toNat % 16) 0]
def encB (b : UInt8) : List UInt8 := if unres (b.toNat : Int) = true then [b] else pct b
def encL (l : List UInt8) : List UInt8 := l.flatMap encB
def enc (s : ByteArray) : ByteArray := ⟨(encL s.data.toList).toArray⟩
theorem encB_len (b : UInt8) : 1 ≤ (encB b).length ∧ (encB b).length ≤ 3 := by
 unfold encB
 split <;> simp [pct]
end Go.Proofs.YtiohmnhbmmhnhaaGreatDoor
