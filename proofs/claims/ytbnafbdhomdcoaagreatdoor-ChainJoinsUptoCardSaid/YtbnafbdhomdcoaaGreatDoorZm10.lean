/-
  CjB, TgP, without what the claim does not reach.
-/
import Derived.Test.YtbnafbdhomdcoaaGreatDoorZPlain
namespace Go.Proofs.YtbnafbdhomdcoaaGreatDoor
def signs64 : ByteArray := ⟨#[65, 66, 67, 68, 69, 70, 71, 72, 73, 74, 75, 76, 77, 78, 79, 80, 81, 82, 83, 84, 85, 86, 87, 88, 89, 90, 97, 98, 99, 100, 101, 102, 103, 104, 105, 106, 107, 108, 109, 110, 111, 112, 113, 114, 115, 116, 117, 118, 119, 120, 121, 122, 48, 49, 50, 51, 52, 53, 54, 55, 56, 57, 43, 47]⟩
def of64 (c : UInt8) : Int := findB signs64 (c.toNat : Int)
theorem of64_range (c : UInt8) : -1 ≤ of64 c ∧ of64 c < 64 := by
 have h : ∀ k : Fin 256, -1 ≤ of64 (UInt8.ofNat k.val) ∧ of64 (UInt8.ofNat k.val) < 64 := by decide +kernel
 have := h ⟨c.toNat, c.toNat_lt⟩
 simpa using this
theorem of64_fill : of64 61 = -1 := by decide +kernel
def val64 (c : UInt8) : Nat := (of64 c).toNat
def group4 (a b c d : UInt8) : Option (List UInt8 × Bool) :=
 if of64 a < 0 ∨ of64 b < 0 then none
 else if 0 ≤ of64 c then
  if 0 ≤ of64 d then some ([UInt8.ofNat ((((val64 a * 64 + val64 b) * 64 + val64 c) * 64 + val64 d) / 65536), UInt8.ofNat ((((val64 a * 64 + val64 b) * 64 + val64 c) * 64 + val64 d) / 256), UInt8.ofNat (((val64 a * 64 + val64 b) * 64 + val64 c) * 64 + val64 d)], false)
  else if d = 61 ∧ val64 c % 4 = 0 then some ([UInt8.ofNat (((val64 a * 64 + val64 b) * 64 + val64 c) / 1024), UInt8.ofNat (((val64 a * 64 + val64 b) * 64 + val64 c) / 4)], true)
  else none
 else if c = 61 ∧ d = 61 ∧ val64 b % 16 = 0 then some ([UInt8.ofNat ((val64 a * 64 + val64 b) / 16)], true)
 else none
def b64 : List UInt8 → Option (List UInt8)
 | [] => some []
 | a :: b :: c :: d :: r => match group4 a b c d with
  | none => none
  | some (o, false) => (b64 r).map (o ++ ·)
  | some (o, true) => if r = [] then some o else none
 | _ => none
structure B6 where
 n : Nat
 hv : Nat
 fill : Nat
 out : List UInt8
def emit (n m : Nat) : List UInt8 := if m < 8 then [] else UInt8.ofNat (n / 2 ^ (m - 8)) :: emit n (m - 8)
termination_by m
def b6next (p : Nat) (st : B6) (c : UInt8) : Option B6 :=
 if 0 < st.fill ∧ p = 0 then none
 else if 0 ≤ of64 c ∧ st.fill = 0 then some ⟨st.n * 64 + val64 c, st.hv + 6, 0, st.out⟩
 else if c = 61 ∧ st.fill = 0 ∧ 2 ≤ p ∧ st.n % 2 ^ (st.hv % 8) = 0 then some ⟨st.n, st.hv, 1, st.out⟩
 else if c = 61 ∧ st.fill = 1 ∧ p = 3 then some ⟨st.n, st.hv, 2, st.out⟩
 else none
def b6flush (p : Nat) (st : B6) : B6 := if p = 3 then ⟨0, 0, st.fill, st.out ++ emit st.n st.hv⟩ else st
def b6run : List UInt8 → Nat → B6 → Option (List UInt8)
 | [], i, st => if i % 4 = 0 then some st.out else none
 | c :: r, i, st => match b6next (i % 4) st c with
  | none => none
  | some s => b6run r (i + 1) (b6flush (i % 4) s)
structure B6ok (i : Nat) (st : B6) : Prop where
 n : st.n < 2 ^ st.hv
 hv : st.hv ≤ 6 * (i % 4)
theorem B6ok.first : B6ok 0 ⟨0, 0, 0, []⟩ := ⟨by simp, by simp⟩
theorem B6ok.next {i : Nat} {st s : B6} {c : UInt8} (h : B6ok i st) (hs : b6next (i % 4) st c = some s) : s.n < 2 ^ s.hv ∧ s.hv ≤ 6 * (i % 4) + 6 ∧ s.hv ≤ 24 := by
 obtain ⟨h1, h2⟩ := h
 have h4 : i % 4 < 4 := Nat.mod_lt _ (by omega)
 unfold b6next at hs
 split at hs
 ·cases hs
 ·split at hs
  ·cases hs
   have hv : val64 c < 64 := by have := of64_range c; unfold val64; omega
   refine ⟨?_, by simp; omega, by simp; omega⟩
   show st.n * 64 + val64 c < 2 ^ (st.hv + 6)
   rw [Nat.pow_add]
   omega
  ·split at hs
   ·cases hs; exact ⟨h1, by simp; omega, by simp; omega⟩
   ·split at hs
    ·cases hs; exact ⟨h1, by simp; omega, by simp; omega⟩
    ·cases hs
theorem B6ok.step {i : Nat} {st s : B6} {c : UInt8} (h : B6ok i st) (hs : b6next (i % 4) st c = some s) : B6ok (i + 1) (b6flush (i % 4) s) := by
 obtain ⟨h1, h2, h3⟩ := h.next hs
 unfold b6flush
 split
 ·exact ⟨by simp, by simp⟩
 ·have : (i + 1) % 4 = i % 4 + 1 := by omega
  exact ⟨h1, by omega⟩
theorem b6_full {i : Nat} (hi : i % 4 = 0) (f : Nat) (hf : 0 < f) (l out : List UInt8) (n hv : Nat) : b6run l i ⟨n, hv, f, out⟩ = if l = [] then some out else none := by
 cases l with
 | nil => simp [b6run, hi]
 | cons c r => simp [b6run, b6next, hi, hf]
theorem emit24 (n : Nat) : emit n 24 = [UInt8.ofNat (n / 65536), UInt8.ofNat (n / 256), UInt8.ofNat n] := by simp [emit]
theorem emit18 (n : Nat) : emit n 18 = [UInt8.ofNat (n / 1024), UInt8.ofNat (n / 4)] := by simp [emit]
theorem emit12 (n : Nat) : emit n 12 = [UInt8.ofNat (n / 16)] := by simp [emit]
theorem b6_group {i : Nat} (hi : i % 4 = 0) (a b c d : UInt8) (r out : List UInt8) : b6run (a :: b :: c :: d :: r) i ⟨0, 0, 0, out⟩ = match group4 a b c d with
  | none => none
  | some (o, false) => b6run r (i + 4) ⟨0, 0, 0, out ++ o⟩
  | some (o, true) => if r = [] then some (out ++ o) else none := by
 have h1 : (i + 1) % 4 = 1 := by omega
 have h2 : (i + 1 + 1) % 4 = 2 := by omega
 have h3 : (i + 1 + 1 + 1) % 4 = 3 := by omega
 have h4 : (i + 1 + 1 + 1 + 1) % 4 = 0 := by omega
 have h61 := of64_fill
 by_cases ha : of64 a < 0
 ·have : ¬ 0 ≤ of64 a := by omega
  simp [b6run, b6next, hi, group4, ha, this]
 ·have ha' : 0 ≤ of64 a := by omega
  by_cases hb : of64 b < 0
  ·have : ¬ 0 ≤ of64 b := by omega
   simp [b6run, b6next, b6flush, hi, h1, group4, ha, ha', hb, this]
  ·have hb' : 0 ≤ of64 b := by omega
   by_cases hc : 0 ≤ of64 c
   ·by_cases hd : 0 ≤ of64 d
    ·simp [b6run, b6next, b6flush, hi, h1, h2, h3, group4, ha, ha', hb, hb', hc, hd, emit24]
    ·have hm : (((val64 a * 64 + val64 b) * 64 + val64 c) % 4 = 0) ↔ val64 c % 4 = 0 := by omega
     by_cases he : d = 61
     ·by_cases hz : val64 c % 4 = 0
      ·have hz' := hm.2 hz
       simp [b6run, b6next, b6flush, hi, h1, h2, h3, group4, ha, ha', hb, hb', hc, he, hz, hz', h61, emit18]
       rw [b6_full h4 1 (by omega)]
      ·have hz' : ¬ ((val64 a * 64 + val64 b) * 64 + val64 c) % 4 = 0 := fun h => hz (hm.1 h)
       simp [b6run, b6next, b6flush, hi, h1, h2, h3, group4, ha, ha', hb, hb', hc, he, hz, hz', h61]
     ·simp [b6run, b6next, b6flush, hi, h1, h2, h3, group4, ha, ha', hb, hb', hc, hd, he]
   ·by_cases he : c = 61
    ·have hm : ((val64 a * 64 + val64 b) % 16 = 0) ↔ val64 b % 16 = 0 := by omega
     by_cases hz : val64 b % 16 = 0
     ·have hz' := hm.2 hz
      by_cases hf : d = 61
      ·simp [b6run, b6next, b6flush, hi, h1, h2, h3, group4, ha, ha', hb, hb', he, hf, hz, hz', h61, emit12]
       rw [b6_full h4 2 (by omega)]
      ·simp [b6run, b6next, b6flush, hi, h1, h2, h3, group4, ha, ha', hb, hb', he, hf, hz, hz', h61]
     ·have hz' : ¬ (val64 a * 64 + val64 b) % 16 = 0 := fun h => hz (hm.1 h)
      simp [b6run, b6next, b6flush, hi, h1, h2, group4, ha, ha', hb, hb', he, hz, hz', h61]
    ·simp [b6run, b6next, b6flush, hi, h1, h2, group4, ha, ha', hb, hb', hc, he]
theorem b6_run : ∀ (k : Nat) (l out : List UInt8) (i : Nat), l.length ≤ k → i % 4 = 0 → b6run l i ⟨0, 0, 0, out⟩ = (b64 l).map (out ++ ·)
 | 0, l, out, i, hl, hi => by
  obtain rfl : l = [] := List.eq_nil_of_length_eq_zero (by omega)
  simp [b6run, b64, hi]
 | k + 1, [], out, i, _, hi => by simp [b6run, b64, hi]
 | k + 1, [a], out, i, _, hi => by
  have h1 : ¬ (i + 1) % 4 = 0 := by omega
  simp only [b6run, b64, Option.map_none]
  split
  ·rfl
  ·rw [if_neg h1]
 | k + 1, [a, b], out, i, _, hi => by
  have h1 : ¬ (i + 1 + 1) % 4 = 0 := by omega
  simp only [b6run, b64, Option.map_none]
  split
  ·rfl
  ·split
   ·rfl
   ·rw [if_neg h1]
 | k + 1, [a, b, c], out, i, _, hi => by
  have h1 : ¬ (i + 1 + 1 + 1) % 4 = 0 := by omega
  simp only [b6run, b64, Option.map_none]
  split
  ·rfl
  ·split
   ·rfl
   ·split
    ·rfl
    ·rw [if_neg h1]
 | k + 1, a :: b :: c :: d :: r, out, i, hl, hi => by
  rw [b6_group hi, b64]
  cases hg : group4 a b c d with
  | none => rfl
  | some x =>
   obtain ⟨o, e⟩ := x
   cases e
   ·show b6run r (i + 4) ⟨0, 0, 0, out ++ o⟩ = _
    rw [b6_run k r (out ++ o) (i + 4) (by simp at hl; omega) (by omega)]
    cases b64 r <;> simp
   ·show (if r = [] then some (out ++ o) else none) = (if r = [] then some o else none).map (out ++ ·)
    split <;> rfl
theorem b6_b64 (l : List UInt8) : b6run l 0 ⟨0, 0, 0, []⟩ = b64 l := by
 rw [b6_run l.length l [] 0 (Nat.le_refl _) (by rfl)]
 cases b64 l <;> simp
theorem emit_len (n : Nat) : ∀ m, (emit n m).length ≤ m / 8 := by
 intro m
 induction m using Nat.strongRecOn with
 | ind m ih =>
  rw [emit]
  split
  ·simp
  ·rename_i h
   have := ih (m - 8) (by omega)
   simp
   omega
end Go.Proofs.YtbnafbdhomdcoaaGreatDoor
namespace Go.Proofs.YtbnafbdhomdcoaaGreatDoor.T5
def inB (t : ByteArray) (c : Int) : Bool := !allB (fun b => !decide (b = c)) t
theorem inB_find (t : ByteArray) (c : Int) : (inB t c = true → 0 ≤ findB t c) ∧ (inB t c = false → findB t c = -1) := by
 rcases findB_cases t c with ⟨h1, _, h2⟩ | ⟨k, hk, h1, _, h2, _⟩
 ·have : allB (fun b => !decide (b = c)) t = true := allB_true fun j hj => by simpa using h2 j hj
  unfold inB
  rw [this, h1]
  exact ⟨fun h => by (cases h), fun _ => rfl⟩
 ·have : allB (fun b => !decide (b = c)) t = false := allB_false hk (by simpa using h2)
  unfold inB
  rw [this, h1]
  exact ⟨fun _ => by omega, fun h => by (cases h)⟩
def dashes : ByteArray := ⟨#[45, 46, 95, 126]⟩
def subs : ByteArray := ⟨#[33, 36, 38, 39, 40, 41, 42, 43, 44, 59, 61]⟩
def unres (c : Int) : Bool := alnum c || inB dashes c
def subd (c : Int) : Bool := inB subs c
def classI (c : Int) : Int := if unres c = true then 1 else if subd c = true then 2 else if c = 58 ∨ c = 64 then 4 else if c = 47 then 8 else if c = 63 then 16 else 0
theorem class_unres {c : Int} (h : unres c = true) : classI c = 1 := by unfold classI; rw [if_pos h]
theorem class_sub {c : Int} (h : unres c = false) (h2 : subd c = true) : classI c = 2 := by unfold classI; rw [if_neg (by rw [h]; simp), if_pos h2]
theorem class_one (c : Int) : (classI c == 1) = unres c := by
 unfold classI
 cases h : unres c
 ·rw [if_neg (by simp)]
  split
  ·rfl
  ·split
   ·rfl
   ·split
    ·rfl
    ·split <;> rfl
 ·rw [if_pos rfl]; rfl
def mayB (m : Int) (c : Int) : Bool := !(bits BinOp.and IntKind.i64 (classI c) m == 0)
def hostSign (c : Int) : Bool := unres c || subd c
def pathSign (c : Int) : Bool := hostSign c || (decide (c = 58) || decide (c = 64)) || decide (c = 47)
def querySign (c : Int) : Bool := pathSign c || decide (c = 63)
theorem may_tab : ∀ n : Nat, n < 256 → mayB 3 n = hostSign n ∧ mayB 15 n = pathSign n ∧ mayB 31 n = querySign n := by decide +kernel
theorem may_host {c : Int} (h0 : 0 ≤ c) (h1 : c < 256) : mayB 3 c = hostSign c := by
 obtain ⟨n, rfl⟩ := Int.eq_ofNat_of_zero_le h0
 exact (may_tab n (by omega)).1
theorem may_path {c : Int} (h0 : 0 ≤ c) (h1 : c < 256) : mayB 15 c = pathSign c := by
 obtain ⟨n, rfl⟩ := Int.eq_ofNat_of_zero_le h0
 exact (may_tab n (by omega)).2.1
theorem may_query {c : Int} (h0 : 0 ≤ c) (h1 : c < 256) : mayB 31 c = querySign c := by
 obtain ⟨n, rfl⟩ := Int.eq_ofNat_of_zero_le h0
 exact (may_tab n (by omega)).2.2
def isHexB (c : Int) : Bool := decide (0 ≤ digV c)
def tri (s : ByteArray) (i : Nat) : Bool := decide (i + 2 < s.size) && (decide (bt s i = 37) && (isHexB (bt s (i + 1)) && isHexB (bt s (i + 2))))
def triV (s : ByteArray) (i : Nat) : Int := digV (bt s (i + 1)) * 16 + digV (bt s (i + 2))
theorem tri_iff {s : ByteArray} {i : Nat} : tri s i = true ↔ (i + 2 < s.size ∧ bt s i = 37 ∧ 0 ≤ digV (bt s (i + 1)) ∧ 0 ≤ digV (bt s (i + 2))) := by
 simp [tri, isHexB]
theorem tri_range {s : ByteArray} {i : Nat} (h : tri s i = true) : 0 ≤ triV s i ∧ triV s i < 256 := by
 obtain ⟨_, _, h1, h2⟩ := tri_iff.1 h
 have := digV_range (bt s (i + 1))
 have := digV_range (bt s (i + 2))
 unfold triV
 omega
theorem tri_short {s : ByteArray} {i : Nat} (h : s.size ≤ i + 2) : tri s i = false := by
 cases e : tri s i
 ·rfl
 ·have := (tri_iff.1 e).1; omega
theorem tri_other {s : ByteArray} {i : Nat} (h : bt s i ≠ 37) : tri s i = false := by
 cases e : tri s i
 ·rfl
 ·exact absurd (tri_iff.1 e).2.1 h
theorem tri_one {s : ByteArray} {i : Nat} (h : digV (bt s (i + 1)) < 0) : tri s i = false := by
 cases e : tri s i
 ·rfl
 ·have := (tri_iff.1 e).2.2.1; omega
theorem tri_two {s : ByteArray} {i : Nat} (h : digV (bt s (i + 2)) < 0) : tri s i = false := by
 cases e : tri s i
 ·rfl
 ·have := (tri_iff.1 e).2.2.2; omega
def stopGo (P : Int → Bool) (s : ByteArray) : Nat → Nat → Nat
 | 0, i => i
 | n + 1, i => if i < s.size then (if tri s i = true then stopGo P s n (i + 3) else if P (bt s i) = true then stopGo P s n (i + 1) else i) else i
theorem stopGo_more (P : Int → Bool) (s : ByteArray) : ∀ (n i : Nat), s.size - i ≤ n → stopGo P s n i = stopGo P s (n + 1) i
 | 0, i, h => by
  unfold stopGo
  rw [if_neg (by omega)]
 | n + 1, i, h => by
  conv => lhs; unfold stopGo
  conv => rhs; unfold stopGo
  split
  ·split
   ·exact stopGo_more P s n (i + 3) (by omega)
   ·split
    ·exact stopGo_more P s n (i + 1) (by omega)
    ·rfl
  ·rfl
theorem stopGo_eq (P : Int → Bool) (s : ByteArray) (i : Nat) : ∀ (d n : Nat), s.size - i ≤ n → stopGo P s (n + d) i = stopGo P s n i
 | 0, _, _ => rfl
 | d + 1, n, h => by rw [← Nat.add_assoc, ← stopGo_more P s (n + d) i (by omega)]; exact stopGo_eq P s i d n h
def stopF (P : Int → Bool) (s : ByteArray) (i : Nat) : Nat := stopGo P s (s.size - i) i
section
variable {P : Int → Bool} {s : ByteArray} {i : Nat}
theorem stopF_go {n : Nat} (h : s.size - i ≤ n) : stopGo P s n i = stopF P s i := by
 have := stopGo_eq P s i (n - (s.size - i)) (s.size - i) (Nat.le_refl _)
 rw [show s.size - i + (n - (s.size - i)) = n from by omega] at this
 exact this
theorem stopF_end (h : s.size ≤ i) : stopF P s i = i := by
 unfold stopF
 rw [show s.size - i = 0 from by omega]
 rfl
theorem stopF_step (h : i < s.size) : stopF P s i = if tri s i = true then stopF P s (i + 3) else if P (bt s i) = true then stopF P s (i + 1) else i := by
 have e : s.size - i = (s.size - i - 1) + 1 := by omega
 conv => lhs; unfold stopF; rw [e]; unfold stopGo
 rw [if_pos h, stopF_go (by omega), stopF_go (by omega)]
theorem stopF_tri (h : tri s i = true) : stopF P s i = stopF P s (i + 3) := by
 have := (tri_iff.1 h).1
 rw [stopF_step (by omega), if_pos h]
theorem stopF_on (hi : i < s.size) (h : tri s i = false) (hp : P (bt s i) = true) : stopF P s i = stopF P s (i + 1) := by
 rw [stopF_step hi, if_neg (by rw [h]; simp), if_pos hp]
theorem stopF_stop (hi : i < s.size) (h : tri s i = false) (hp : P (bt s i) = false) : stopF P s i = i := by
 rw [stopF_step hi, if_neg (by rw [h]; simp), if_neg (by rw [hp]; simp)]
end
theorem stopF_range (P : Int → Bool) (s : ByteArray) : ∀ (n i : Nat), s.size - i ≤ n → i ≤ s.size → i ≤ stopF P s i ∧ stopF P s i ≤ s.size
 | 0, i, h, hi => by rw [stopF_end (by omega)]; omega
 | n + 1, i, h, hi => by
  by_cases hlt : i < s.size
  ·rw [stopF_step hlt]
   split
   ·rename_i ht
    have := (tri_iff.1 ht).1
    have := stopF_range P s n (i + 3) (by omega) (by omega)
    omega
   ·split
    ·have := stopF_range P s n (i + 1) (by omega) (by omega)
     omega
    ·omega
  ·rw [stopF_end (by omega)]; omega
theorem stopF_le (P : Int → Bool) (s : ByteArray) : stopF P s 0 ≤ s.size := (stopF_range P s s.size 0 (by omega) (by omega)).2
theorem stopF_congr {P Q : Int → Bool} (h : ∀ c, 0 ≤ c → c < 256 → P c = Q c) (s : ByteArray) : ∀ (n i : Nat), s.size - i ≤ n → stopF P s i = stopF Q s i
 | 0, i, hi => by rw [stopF_end (by omega), stopF_end (by omega)]
 | n + 1, i, hi => by
  by_cases hlt : i < s.size
  ·rw [stopF_step hlt, stopF_step hlt, h _ (bt_nonneg s i) (bt_lt s i), stopF_congr h s n (i + 3) (by omega), stopF_congr h s n (i + 1) (by omega)]
  ·rw [stopF_end (by omega), stopF_end (by omega)]
def hostStop (s : ByteArray) : Nat := stopF hostSign s 0
def pathStop (s : ByteArray) : Nat := stopF pathSign s 0
def queryStop (s : ByteArray) : Nat := stopF querySign s 0
def wrongE (s : ByteArray) (i : Nat) (other : Int) : Int := if bt s i = 37 then 51 else other
def isPathB (s : ByteArray) : Bool := decide (0 < s.size) && (decide (bt s 0 = 47) && decide (pathStop s = s.size))
def byteAt (s : ByteArray) (i : Nat) : UInt8 := s.data.toList.getD i 0
def triB (s : ByteArray) (i : Nat) : UInt8 := UInt8.ofNat (triV s i).toNat
theorem triB_bt {s : ByteArray} {i : Nat} (h : tri s i = true) : ((triB s i).toNat : Int) = triV s i := by
 have := tri_range h
 unfold triB
 rw [UInt8.toNat_ofNat']
 omega
section
variable {s : ByteArray} {i : Nat} {acc : List UInt8}
end
def upDigits : ByteArray := ⟨#[48, 49, 50, 51, 52, 53, 54, 55, 56, 57, 65, 66, 67, 68, 69, 70]⟩
def pct (b : UInt8) : List UInt8 := [37, upDigits.data.toList.getD (b.toNat / 16) 0, upDigits.data.toList.getD (b.toNat % 16) 0]
def encB (b : UInt8) : List UInt8 := if unres (b.toNat : Int) = true then [b] else pct b
def encL (l : List UInt8) : List UInt8 := l.flatMap encB
def enc (s : ByteArray) : ByteArray := ⟨(encL s.data.toList).toArray⟩
theorem encB_len (b : UInt8) : 1 ≤ (encB b).length ∧ (encB b).length ≤ 3 := by
 unfold encB
 split <;> simp [pct]
end Go.Proofs.YtbnafbdhomdcoaaGreatDoor.T5
