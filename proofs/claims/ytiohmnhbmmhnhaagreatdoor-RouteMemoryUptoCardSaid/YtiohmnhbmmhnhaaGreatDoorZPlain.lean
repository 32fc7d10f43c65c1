/-
 Plain, without what this claim does not reach.
-/
import Derived.WalkKit
import Derived.Lib.SlTrimSet
import Derived.Lib.Bytealg
namespace Go.Proofs.YtiohmnhbmmhnhaaGreatDoor
def bt (s : ByteArray) (j : Nat) : Int := ((s.data.toList.getD j 0).toNat : Int)
theorem bt_eq {s : ByteArray} {k : Nat} (h : k < s.size) : ((s[k].toNat : Nat) : Int) = bt s k := by
 have h' : k < s.data.toList.length := by simpa using h
 unfold bt
 rw [List.getD_eq_getElem?_getD, List.getElem?_eq_getElem h']
 rfl
theorem bt_nonneg (s : ByteArray) (k : Nat) : 0 ≤ bt s k := by unfold bt; omega
theorem bt_lt (s : ByteArray) (k : Nat) : bt s k < 256 := by
 unfold bt
 have := (s.data.toList.getD k 0).toNat_lt
 omega
theorem size_eq (s : ByteArray) : s.data.toList.length = s.size := by rw [Array.length_toList]; rfl
def AllTo (P : Int → Bool) (s : ByteArray) (k : Nat) : Prop := ∀ j, j < k → P (bt s j) = true
theorem AllTo.zero (P : Int → Bool) (s : ByteArray) : AllTo P s 0 := fun _ h => by omega
theorem AllTo.succ {P : Int → Bool} {s : ByteArray} {k : Nat} (h : AllTo P s k) (hk : P (bt s k) = true) : AllTo P s (k + 1) := fun j hj => by
 by_cases e : j = k
 ·rw [e]; exact hk
 ·exact h j (by omega)
def allB (P : Int → Bool) (s : ByteArray) : Bool := s.data.toList.all fun b => P (b.toNat : Int)
theorem allB_true {P : Int → Bool} {s : ByteArray} (h : AllTo P s s.size) : allB P s = true := by
 unfold allB
 rw [List.all_eq_true]
 intro b hb
 obtain ⟨j, hj, rfl⟩ := List.getElem_of_mem hb
 have := h j (by rw [← size_eq]; exact hj)
 unfold bt at this
 rwa [List.getD_eq_getElem?_getD, List.getElem?_eq_getElem hj] at this
theorem allB_false {P : Int → Bool} {s : ByteArray} {k : Nat} (hk : k < s.size) (h : P (bt s k) = false) : allB P s = false := by
 unfold allB
 rw [List.all_eq_false]
 have hj : k < s.data.toList.length := by rw [size_eq]; exact hk
 refine ⟨s.data.toList[k], List.getElem_mem hj, ?_⟩
 unfold bt at h
 rw [List.getD_eq_getElem?_getD, List.getElem?_eq_getElem hj] at h
 simpa using h
theorem allB_at {P : Int → Bool} {s : ByteArray} (h : allB P s = true) : AllTo P s s.size := fun j hj => by
 cases e : P (bt s j)
 ·rw [allB_false hj e] at h; cases h
 ·rfl
def alnum (c : Int) : Bool := (decide (48 ≤ c) && decide (c ≤ 57)) || (decide (65 ≤ c) && decide (c ≤ 90)) || (decide (97 ≤ c) && decide (c ≤ 122))
def oth : ByteArray := ⟨#[33, 35, 36, 37, 38, 39, 42, 43, 45, 46, 94, 95, 96, 124, 126]⟩
theorem oth_size : oth.size = 15 := rfl
def sign (c : Int) : Bool := alnum c || !allB (fun b => !decide (b = c)) oth
def inside (c : Int) : Bool := decide (c = 9) || (decide (32 ≤ c) && !decide (c = 127))
def blank (c : Int) : Bool := decide (c = 32) || decide (c = 9)
def isTok (s : ByteArray) : Bool := allB sign s && !decide (s.size = 0)
theorem empty_eq (s : ByteArray) : s.toList.isEmpty = decide (s.size = 0) := by
 rw [ByteArray.toList_eq, ← size_eq]
 cases s.data.toList <;> simp
def signTab : List Int := [0, 67071226, 3355443198, 1476395007]
theorem sign_tab (c : Int) (h0 : 0 ≤ c) (h1 : c < 128) : (bits BinOp.and IntKind.u32 (signTab.getD (c / 32).toNat 0 / 2 ^ (c % 32).toNat) 1 == 1) = sign c := by
 obtain ⟨n, rfl⟩ := Int.eq_ofNat_of_zero_le h0
 have key : ∀ n : Nat, n < 128 → (bits BinOp.and IntKind.u32 (signTab.getD ((n : Int) / 32).toNat 0 / 2 ^ ((n : Int) % 32).toNat) 1 == 1) = sign n := by decide +kernel
 exact key n (by omega)
theorem sign_big (c : Int) (h0 : 128 ≤ c) : sign c = false := by
 have h1 : alnum c = false := by simp [alnum]; omega
 have h2 : AllTo (fun b => !decide (b = c)) oth oth.size := fun j hj => by
  have h3 : ∀ j : Nat, j < 15 → bt oth j < 128 := by decide +kernel
  have := h3 j (by rw [← oth_size]; exact hj)
  simp
  omega
 rw [sign, h1, allB_true h2]
 rfl
def scan (P : Nat → Bool) (a : Nat) : Nat → Nat
 | 0 => a
 | n + 1 => if P a then scan P (a + 1) n else a
theorem scan_spec (P : Nat → Bool) (n : Nat) : ∀ a, a ≤ scan P a n ∧ scan P a n ≤ a + n ∧ (∀ j, a ≤ j → j < scan P a n → P j = true) ∧ (scan P a n < a + n → P (scan P a n) = false) := by
 induction n with
 | zero => intro a; exact ⟨Nat.le_refl _, Nat.le_refl _, fun j h1 h2 => by simp only [scan] at h2; omega, fun h => by simp only [scan] at h; omega⟩
 | succ n ih =>
  intro a
  unfold scan
  cases hp : P a
  ·exact ⟨Nat.le_refl _, by simp, fun j h1 h2 => by simp at h2; omega, fun _ => by simpa using hp⟩
  ·obtain ⟨h1, h2, h3, h4⟩ := ih (a + 1)
   simp only [if_true]
   refine ⟨by omega, by omega, fun j g1 g2 => ?_, fun h => h4 (by omega)⟩
   by_cases e : j = a
   ·rw [e]; exact hp
   ·exact h3 j (by omega) g2
theorem scan_eq {P : Nat → Bool} {a n k : Nat} (h1 : a ≤ k) (h2 : k ≤ a + n) (h3 : ∀ j, a ≤ j → j < k → P j = true) (h4 : k < a + n → P k = false) : scan P a n = k := by
 obtain ⟨g1, g2, g3, g4⟩ := scan_spec P n a
 rcases Nat.lt_trichotomy (scan P a n) k with h | h | h
 ·have := h3 _ g1 h
  rw [g4 (by omega)] at this
  cases this
 ·exact h
 ·have := g3 k h1 h
  rw [h4 (by omega)] at this
  cases this
def Good (P : Nat → Bool) (a k : Nat) : Prop := ∀ j, a ≤ j → j < k → P j = true
theorem Good.zero (P : Nat → Bool) (a : Nat) : Good P a a := fun _ _ _ => by omega
theorem Good.succ {P : Nat → Bool} {a k : Nat} (h : Good P a k) (hk : P k = true) : Good P a (k + 1) := fun j h1 h2 => by
 by_cases e : j = k
 ·rw [e]; exact hk
 ·exact h j h1 (by omega)
theorem scan_stop {P : Nat → Bool} {a n k : Nat} (h : Good P a k) (h1 : a ≤ k) (h2 : k < a + n) (hk : P k = false) : scan P a n = k := scan_eq h1 (by omega) h (fun _ => hk)
theorem scan_all {P : Nat → Bool} {a n : Nat} (h : Good P a (a + n)) : scan P a n = a + n := scan_eq (by omega) (Nat.le_refl _) h (fun h => by omega)
def place (s : ByteArray) (c : Int) : Nat := scan (fun j => !decide (bt s j = c)) 0 s.size
theorem place_le (s : ByteArray) (c : Int) : place s c ≤ s.size := by have := (scan_spec (fun j => !decide (bt s j = c)) s.size 0).2.1; unfold place; omega
def findB (s : ByteArray) (c : Int) : Int := if place s c = s.size then -1 else (place s c : Int)
theorem scan_shift : ∀ (P : Nat → Bool) (n a : Nat), scan P (a + 1) n = scan (fun j => P (j + 1)) a n + 1 := by
 intro P n
 induction n with
 | zero => intro a; rfl
 | succ n ih =>
  intro a
  unfold scan
  rw [ih]
  split <;> rfl
theorem scan_cons (P : Nat → Bool) (n : Nat) : scan P 0 (n + 1) = if P 0 = true then scan (fun j => P (j + 1)) 0 n + 1 else 0 := by
 rw [← scan_shift]
 rfl
theorem indexByte_scan (c : UInt8) (l : List UInt8) : Lib.indexByte l c = if scan (fun j => !decide (l.getD j 0 = c)) 0 l.length = l.length then -1 else (scan (fun j => !decide (l.getD j 0 = c)) 0 l.length : Int) := by
 induction l with
 | nil => rfl
 | cons b l ih =>
  unfold Lib.indexByte
  rw [ih]
  have e : scan (fun j => !decide ((b :: l).getD j 0 = c)) 0 (b :: l).length = if (!decide (b = c)) = true then scan (fun j => !decide (l.getD j 0 = c)) 0 l.length + 1 else 0 := scan_cons _ _
  rw [e]
  generalize scan (fun j => !decide (l.getD j 0 = c)) 0 l.length = q
  by_cases hb : b = c
  ·simp [hb]
  ·simp only [hb, decide_false, Bool.not_false, if_true, beq_iff_eq, if_false, List.length_cons, Nat.add_right_cancel_iff]
   by_cases h : q = l.length
   ·simp [h]
   ·rw [if_neg h, if_neg h, if_neg (by omega)]
    omega
theorem indexByte_eq (s : ByteArray) (c : Int) (h0 : 0 ≤ c) (h1 : c < 256) : Lib.indexByte s.data.toList c.toNat.toUInt8 = findB s c := by
 rw [indexByte_scan, size_eq]
 have e : (fun j => !decide (s.data.toList.getD j 0 = c.toNat.toUInt8)) = fun j => !decide (bt s j = c) := by
  funext j
  congr 1
  apply decide_eq_decide.2
  unfold bt
  have h2 : c.toNat.toUInt8.toNat = c.toNat := by
   show (UInt8.ofNat c.toNat).toNat = _
   rw [UInt8.toNat_ofNat']
   omega
  constructor
  ·intro h
   rw [h, h2]
   omega
  ·intro h
   apply UInt8.toNat_inj.1
   rw [h2]
   omega
 rw [e]
 rfl
theorem findB_at {s : ByteArray} {c : Int} {k : Nat} (h : Good (fun j => !decide (bt s j = c)) 0 k) (hk : k < s.size) (hc : bt s k = c) : findB s c = k := by
 have e : place s c = k := scan_stop h (by omega) (by omega) (by simp [hc])
 unfold findB
 rw [e, if_neg (by omega)]
theorem findB_cases (s : ByteArray) (c : Int) : (findB s c = -1 ∧ place s c = s.size ∧ ∀ j, j < s.size → bt s j ≠ c) ∨ (∃ k : Nat, k < s.size ∧ findB s c = k ∧ place s c = k ∧ bt s k = c ∧ ∀ j, j < k → bt s j ≠ c) := by
 obtain ⟨_, g2, g3, g4⟩ := scan_spec (fun j => !decide (bt s j = c)) s.size 0
 by_cases e : place s c = s.size
 ·refine .inl ⟨by unfold findB; rw [if_pos e], e, fun j hj => ?_⟩
  have := g3 j (by omega) (by show j < place s c; omega)
  simpa using this
 ·have hlt : place s c < s.size := by have := place_le s c; omega
  refine .inr ⟨place s c, hlt, by unfold findB; rw [if_neg e], rfl, ?_, fun j hj => ?_⟩
  ·have := g4 (by show place s c < _; omega)
   simp at this
   exact this
  ·have := g3 j (by omega) hj
   simpa using this
theorem eq_str (a b : ByteArray) : (a.toList == b.toList) = decide (a = b) := by
 rw [ByteArray.toList_eq, ByteArray.toList_eq, Bool.eq_iff_iff]
 simp only [beq_iff_eq, decide_eq_true_eq]
 constructor
 ·intro h
  apply ByteArray.ext
  exact Array.ext' h
 ·intro h; rw [h]
theorem ext_size (s : ByteArray) {a b : Nat} (h : a ≤ b) (hb : b ≤ s.size) : (s.extract a b).size = b - a := by
 rw [ByteArray.size_extract]
 omega
theorem ext_bt (s : ByteArray) {a b : Nat} {j : Nat} (hj : j < b - a) : bt (s.extract a b) j = bt s (a + j) := by
 unfold bt
 rw [Lib.extract_data, List.getD_eq_getElem?_getD, List.getD_eq_getElem?_getD, List.getElem?_take, if_pos hj, List.getElem?_drop]
def trim (s : ByteArray) : ByteArray := ⟨(Lib.trimS s.data.toList [32, 9]).toArray⟩
theorem ext_all (s : ByteArray) {k : Nat} : (s.extract k s.size).data.toList = s.data.toList.drop k := by
 rw [Lib.extract_data, ← size_eq, List.take_of_length_le (by rw [List.length_drop]; exact Nat.le_refl _)]
theorem ext_front (s : ByteArray) (k : Nat) : (s.extract 0 k).data.toList = s.data.toList.take k := by
 rw [Lib.extract_data]; simp
section
variable {s : ByteArray}
variable {k : Nat}
variable (h : ¬ (0 < s.size ∧ blank (bt s 0) = true)) (hk : k < s.size) (h0 : 0 < k) (hc : place s 58 = k) (hgood : Good (fun j => decide (j < 128) && sign (bt s j)) 0 k)
include h hk h0 hc hgood
variable (hin : Good (fun j => inside (bt s j)) (k + 1) s.size)
include hin
end
end Go.Proofs.YtiohmnhbmmhnhaaGreatDoor
namespace Go.Proofs.YtiohmnhbmmhnhaaGreatDoor
theorem bytes_ext {a b : ByteArray} (h : a.data.toList = b.data.toList) : a = b := by
 apply ByteArray.ext
 exact Array.ext' h
end Go.Proofs.YtiohmnhbmmhnhaaGreatDoor
namespace Go.Proofs.YtiohmnhbmmhnhaaGreatDoor
theorem drop_at (s : ByteArray) {i : Nat} (h : i < s.size) : ∃ b : UInt8, s.data.toList.drop i = b :: s.data.toList.drop (i + 1) ∧ (b.toNat : Int) = bt s i := by
 have h' : i < s.data.toList.length := by rw [size_eq]; exact h
 refine ⟨s.data.toList[i], List.drop_eq_getElem_cons h', ?_⟩
 unfold bt
 rw [List.getD_eq_getElem?_getD, List.getElem?_eq_getElem h']
 rfl
theorem ba_eta (s : ByteArray) : (⟨s.data.toList.toArray⟩ : ByteArray) = s := bytes_ext rfl
theorem ext_list (s : ByteArray) (a b : Nat) : (s.extract a b).data.toList = (s.data.toList.drop a).take (b - a) := Lib.extract_data s a b
theorem ext_succ (s : ByteArray) {a i : Nat} {b : UInt8} (ha : a ≤ i) (hi : i < s.size) (hb : s.data.toList.drop i = b :: s.data.toList.drop (i + 1)) : (s.extract a (i + 1)).data.toList = (s.extract a i).data.toList ++ [b] := by
 rw [ext_list, ext_list, show i + 1 - a = (i - a) + 1 from by omega]
 have h' : i - a < (s.data.toList.drop a).length := by rw [List.length_drop, size_eq]; omega
 rw [List.take_succ_eq_append_getElem h']
 congr 2
 rw [List.getElem_drop]
 have h2 : i < s.data.toList.length := by rw [size_eq]; exact hi
 have := List.drop_eq_getElem_cons h2
 rw [this] at hb
 injection hb with hb _
 rw [← hb]
 congr 1
 omega
theorem ext_same (s : ByteArray) (a : Nat) : (s.extract a a).data.toList = [] := by rw [ext_list, Nat.sub_self]; rfl
def quRun : List UInt8 → Bool → Option Nat
 | [], _ => none
 | c :: r, true => if inside (c.toNat : Int) = true then (quRun r false).map (· + 1) else none
 | c :: r, false => if (c.toNat : Int) = 34 then some 1 else if (c.toNat : Int) = 92 then (quRun r true).map (· + 1) else if inside (c.toNat : Int) = true then (quRun r false).map (· + 1) else none
def quLen (s : ByteArray) : Nat := match quRun (s.data.toList.drop 1) false with
 | none => 0
 | some k => k + 1
def QuAt (s : ByteArray) (i : Nat) : Prop := quLen s = match quRun (s.data.toList.drop i) false with
 | none => 0
 | some k => k + i
theorem QuAt.start (s : ByteArray) : QuAt s 1 := rfl
section
variable {s : ByteArray} {i : Nat} (h : QuAt s i)
include h
theorem QuAt.bad (hi : i < s.size) (h1 : bt s i ≠ 34) (h2 : bt s i ≠ 92) (hin : inside (bt s i) = false) : quLen s = 0 := by
 obtain ⟨b, hd, he⟩ := drop_at s hi
 unfold QuAt at h
 rw [h, hd]
 simp only [quRun]
 rw [if_neg (by omega), if_neg (by omega), he, hin]
 rfl
theorem QuAt.on (hi : i < s.size) (h1 : bt s i ≠ 34) (h2 : bt s i ≠ 92) (hin : inside (bt s i) = true) : QuAt s (i + 1) := by
 obtain ⟨b, hd, he⟩ := drop_at s hi
 unfold QuAt at *
 rw [h, hd]
 simp only [quRun]
 rw [if_neg (by omega), if_neg (by omega), he, hin]
 cases quRun (s.data.toList.drop (i + 1)) false with
 | none => rfl
 | some k => show k + 1 + i = k + (i + 1); omega
end
def cleanL (l : List ByteArray) : List ByteArray := (l.map trim).filter fun x => !decide (x.size = 0)
inductive El where
 | out (cur : List UInt8) (acc : List ByteArray)
 | quo (cur : List UInt8) (acc : List ByteArray)
 | esc (cur : List UInt8) (acc : List ByteArray)
 | bad
def El.step : El → UInt8 → El
 | .bad, _ => .bad
 | .out cur acc, c => if (c.toNat : Int) = 34 then .quo (cur ++ [c]) acc else if (c.toNat : Int) = 44 then .out [] (acc ++ [⟨cur.toArray⟩]) else .out (cur ++ [c]) acc
 | .quo cur acc, c => if (c.toNat : Int) = 34 then .out (cur ++ [c]) acc else if (c.toNat : Int) = 92 then .esc (cur ++ [c]) acc else if inside (c.toNat : Int) = true then .quo (cur ++ [c]) acc else .bad
 | .esc cur acc, c => if inside (c.toNat : Int) = true then .quo (cur ++ [c]) acc else .bad
def El.fin : El → Option (List ByteArray)
 | .out cur acc => some (cleanL (acc ++ [⟨cur.toArray⟩]))
 | _ => none
def elRun (l : List UInt8) (e : El) : Option (List ByteArray) := (l.foldl El.step e).fin
def elems (s : ByteArray) : Option (List ByteArray) := elRun s.data.toList (.out [] [])
theorem elRun_cons (c : UInt8) (l : List UInt8) (e : El) : elRun (c :: l) e = elRun l (e.step c) := rfl
def ElAt (s : ByteArray) (a i : Nat) (acc : List ByteArray) : Prop := elRun (s.data.toList.drop i) (.out (s.extract a i).data.toList acc) = elems s
theorem ElAt.start (s : ByteArray) : ElAt s 0 0 [] := by
 unfold ElAt elems
 rw [ext_same]
 rfl
section
variable {s : ByteArray} {a i : Nat} {acc : List ByteArray} (h : ElAt s a i acc)
include h
theorem ElAt.on (ha : a ≤ i) (hi : i < s.size) (h1 : bt s i ≠ 34) (h2 : bt s i ≠ 44) : ElAt s a (i + 1) acc := by
 obtain ⟨b, hd, he⟩ := drop_at s hi
 have hx := ext_succ s ha hi hd
 unfold ElAt at *
 rw [← h, hd, elRun_cons]
 simp only [El.step]
 rw [if_neg (by omega), if_neg (by omega), hx]
end
def Full (l : List ByteArray) : Prop := ∀ x ∈ l, 0 < x.size
theorem Full.le {l : List ByteArray} (h : Full l) : l.length ≤ (l.map (·.size)).sum := by
 induction l with
 | nil => exact Nat.le_refl _
 | cons x l ih =>
  have h1 := h x (by simp)
  have h2 := ih (fun y hy => h y (by simp [hy]))
  simp only [List.length_cons, List.map_cons, List.sum_cons]
  omega
end Go.Proofs.YtiohmnhbmmhnhaaGreatDoor
namespace Go.Proofs.YtiohmnhbmmhnhaaGreatDoor
def digV (c : Int) : Int := if 48 ≤ c ∧ c ≤ 57 then c - 48 else if 97 ≤ c ∧ c ≤ 102 then c - 87 else if 65 ≤ c ∧ c ≤ 70 then c - 55 else -1
theorem digV_range (c : Int) : -1 ≤ digV c ∧ digV c < 16 := by
 unfold digV
 split
 ·omega
 ·split
  ·omega
  ·split <;> omega
theorem digV_val {c : Int} (h : 48 ≤ c ∧ c ≤ 57) : digV c = c - 48 := by
 unfold digV
 rw [if_pos h]
def digOk (base : Int) (c : UInt8) : Bool := decide (0 ≤ digV (c.toNat : Int)) && decide (digV (c.toNat : Int) < base)
def numV (base : Int) (l : List UInt8) : Int := l.foldl (fun n c => n * base + digV (c.toNat : Int)) 0
theorem numV_snoc (b : Int) (l : List UInt8) (c : UInt8) : numV b (l ++ [c]) = numV b l * b + digV (c.toNat : Int) := by simp [numV]
theorem digOk_iff {b : Int} {c : UInt8} : digOk b c = true ↔ (0 ≤ digV (c.toNat : Int) ∧ digV (c.toNat : Int) < b) := by simp [digOk]
theorem snoc_ind {α : Type} {P : List α → Prop} (h0 : P []) (h1 : ∀ l c, P l → P (l ++ [c])) (l : List α) : P l := by
 have : ∀ m : List α, P m.reverse := by
  intro m
  induction m with
  | nil => exact h0
  | cons c m ih => rw [List.reverse_cons]; exact h1 _ _ ih
 have h := this l.reverse
 rwa [List.reverse_reverse] at h
theorem numV_nonneg {b : Int} (hb : 0 ≤ b) : ∀ l : List UInt8, l.all (digOk b) = true → 0 ≤ numV b l := by
 refine snoc_ind (fun _ => Int.le_refl _) fun l c ih h => ?_
 rw [List.all_append] at h
 simp only [List.all_cons, List.all_nil, Bool.and_true, Bool.and_eq_true] at h
 have h1 := ih h.1
 have h2 := (digOk_iff.1 h.2).1
 have h3 := Int.mul_nonneg h1 hb
 rw [numV_snoc]
 omega
def numR (s : ByteArray) (most base : Int) : Int × Int :=
 if s.size = 0 ∨ s.data.toList.all (digOk base) = false then (0, 11) else if most < numV base s.data.toList then (0, 12) else (numV base s.data.toList, 0)
def Digs (base : Int) (s : ByteArray) (k : Nat) : Prop := (s.data.toList.take k).all (digOk base) = true
theorem take_at (s : ByteArray) {i : Nat} (h : i < s.size) : ∃ c : UInt8, s.data.toList.take (i + 1) = s.data.toList.take i ++ [c] ∧ (c.toNat : Int) = bt s i := by
 have h' : i < s.data.toList.length := by rw [size_eq]; exact h
 refine ⟨s.data.toList[i], List.take_succ_eq_append_getElem h', ?_⟩
 unfold bt
 rw [List.getD_eq_getElem?_getD, List.getElem?_eq_getElem h']
 rfl
section
variable {s : ByteArray} {base : Int}
theorem Digs.zero : Digs base s 0 := by unfold Digs; rw [List.take_zero]; rfl
theorem Digs.succ {k : Nat} (h : Digs base s k) (hk : k < s.size) (h0 : 0 ≤ digV (bt s k)) (h1 : digV (bt s k) < base) : Digs base s (k + 1) := by
 obtain ⟨c, hc, he⟩ := take_at s hk
 unfold Digs at *
 rw [hc, List.all_append, h]
 simp [digOk_iff, he, h0, h1]
theorem numV_at {k : Nat} (hk : k < s.size) : numV base (s.data.toList.take (k + 1)) = numV base (s.data.toList.take k) * base + digV (bt s k) := by
 obtain ⟨c, hc, he⟩ := take_at s hk
 rw [hc, numV_snoc, he]
theorem Digs.pos {k : Nat} (h : Digs base s k) (hb : 0 ≤ base) : 0 ≤ numV base (s.data.toList.take k) := numV_nonneg hb _ h
variable {most : Int}
end
end Go.Proofs.YtiohmnhbmmhnhaaGreatDoor
