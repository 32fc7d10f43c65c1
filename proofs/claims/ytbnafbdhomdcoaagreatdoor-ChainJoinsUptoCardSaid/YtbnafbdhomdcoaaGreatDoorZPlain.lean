/-
  Plain, without what this claim does not reach.
-/
import Derived.WalkKit
import Derived.Lib.SlTrimSet
import Derived.Lib.Bytealg
namespace Go.Proofs.YtbnafbdhomdcoaaGreatDoor
def bt (s : ByteArray) (j : Nat) : Int := ((s.data.toList.getD j 0).toNat : Int)
theorem bt_eq {s : ByteArray} {k : Nat} (h : k < s.size) : ((s[k].toNat : Nat) : Int) = bt s k := by
  have h' : k < s.data.toList.length := by simpa using h
  unfold bt
  rw [List.getD_eq_getElem?_getD, List.getElem?_eq_getElem h']
  rfl
theorem bt_nonneg (s : ByteArray) (k : Nat) : 0 ≤ bt s k := by unfold bt; omega
theorem bt_lt (s : ByteArray) (k : Nat) : bt s k < 256 := by
  unfold bt
  have := (s.data.toList.getD k 0).toNat_lt
  omega
theorem size_eq (s : ByteArray) : s.data.toList.length = s.size := by rw [Array.length_toList]; rfl
def AllTo (P : Int → Bool) (s : ByteArray) (k : Nat) : Prop := ∀ j, j < k → P (bt s j) = true
theorem AllTo.zero (P : Int → Bool) (s : ByteArray) : AllTo P s 0 := fun _ h => by omega
theorem AllTo.succ {P : Int → Bool} {s : ByteArray} {k : Nat} (h : AllTo P s k) (hk : P (bt s k) = true) : AllTo P s (k + 1) := fun j hj => by
  by_cases e : j = k
  · rw [e]; exact hk
  · exact h j (by omega)
def allB (P : Int → Bool) (s : ByteArray) : Bool := s.data.toList.all fun b => P (b.toNat : Int)
theorem allB_true {P : Int → Bool} {s : ByteArray} (h : AllTo P s s.size) : allB P s = true := by
  unfold allB
  rw [List.all_eq_true]
  intro b hb
  obtain ⟨j, hj, rfl⟩ := List.getElem_of_mem hb
  have := h j (by rw [← size_eq]; exact hj)
  unfold bt at this
  rwa [List.getD_eq_getElem?_getD, List.getElem?_eq_getElem hj] at this
theorem allB_false {P : Int → Bool} {s : ByteArray} {k : Nat} (hk : k < s.size) (h : P (bt s k) = false) : allB P s = false := by
  unfold allB
  rw [List.all_eq_false]
  have hj : k < s.data.toList.length := by rw [size_eq]; exact hk
  refine ⟨s.data.toList[k], List.getElem_mem hj, ?_⟩
  unfold bt at h
  rw [List.getD_eq_getElem?_getD, List.getElem?_eq_getElem hj] at h
  simpa using h
theorem allB_at {P : Int → Bool} {s : ByteArray} (h : allB P s = true) : AllTo P s s.size := fun j hj => by
  cases e : P (bt s j)
  · rw [allB_false hj e] at h; cases h
  · rfl
def alnum (c : Int) : Bool := (decide (48 ≤ c) && decide (c ≤ 57)) || (decide (65 ≤ c) && decide (c ≤ 90)) || (decide (97 ≤ c) && decide (c ≤ 122))
def oth : ByteArray := ⟨#[33, 35, 36, 37, 38, 39, 42, 43, 45, 46, 94, 95, 96, 124, 126]⟩
theorem oth_size : oth.size = 15 := rfl
def sign (c : Int) : Bool := alnum c || !allB (fun b => !decide (b = c)) oth
def inside (c : Int) : Bool := decide (c = 9) || (decide (32 ≤ c) && !decide (c = 127))
theorem inside_low {c : Int} (h : c < 32) (h9 : (c == 9) = false) : inside c = false := by
  have h9' : ¬ c = 9 := by simpa using h9
  unfold inside
  rw [decide_eq_false h9', decide_eq_false (show ¬ 32 ≤ c by omega)]
  rfl
theorem inside_high {c : Int} (h : 32 ≤ c) (h127 : (c != 127) = true) : inside c = true := by
  have h' : ¬ c = 127 := by simpa using h127
  unfold inside
  rw [decide_eq_true h, decide_eq_false h']
  simp
def blank (c : Int) : Bool := decide (c = 32) || decide (c = 9)
def isTok (s : ByteArray) : Bool := allB sign s && !decide (s.size = 0)
theorem empty_eq (s : ByteArray) : s.toList.isEmpty = decide (s.size = 0) := by
  rw [ByteArray.toList_eq, ← size_eq]
  cases s.data.toList <;> simp
def isFld (s : ByteArray) : Bool := allB inside s
def lowB (b : UInt8) : UInt8 := if 65 ≤ b.toNat ∧ b.toNat ≤ 90 then UInt8.ofNat (b.toNat + 32) else b
def lower (s : ByteArray) : ByteArray := ⟨(s.data.toList.map lowB).toArray⟩
theorem lowB_in {b : UInt8} (h : 65 ≤ (b.toNat : Int) ∧ (b.toNat : Int) ≤ 90) : ((lowB b).toNat : Int) = (b.toNat : Int) + 32 := by
  unfold lowB
  rw [if_pos (by omega), UInt8.toNat_ofNat']
  omega
theorem lowB_out {b : UInt8} (h : ¬ (65 ≤ (b.toNat : Int) ∧ (b.toNat : Int) ≤ 90)) : lowB b = b := by
  unfold lowB
  rw [if_neg (by omega)]
def mapTo (f : UInt8 → UInt8) (l : List UInt8) (k : Nat) : List UInt8 := (l.take k).map f ++ l.drop k
theorem mapTo_zero (f : UInt8 → UInt8) (l : List UInt8) : mapTo f l 0 = l := by simp [mapTo]
theorem mapTo_all (f : UInt8 → UInt8) (l : List UInt8) : mapTo f l l.length = l.map f := by simp [mapTo]
theorem mapTo_length (f : UInt8 → UInt8) (l : List UInt8) (k : Nat) : (mapTo f l k).length = l.length := by simp [mapTo]; omega
theorem mapTo_get (f : UInt8 → UInt8) (l : List UInt8) (k j : Nat) (hk : k ≤ l.length) : (mapTo f l k)[j]? = if j < k then l[j]?.map f else l[j]? := by
  have h : ((l.take k).map f).length = k := by simp; omega
  unfold mapTo
  rw [List.getElem?_append, h]
  by_cases e : j < k
  · rw [if_pos e, if_pos e, List.getElem?_map, List.getElem?_take, if_pos e]
  · rw [if_neg e, if_neg e, List.getElem?_drop]
    congr 1
    omega
theorem mapTo_getD (f : UInt8 → UInt8) (l : List UInt8) (k : Nat) (hk : k < l.length) : (mapTo f l k).getD k 0 = l.getD k 0 := by
  rw [List.getD_eq_getElem?_getD, List.getD_eq_getElem?_getD, mapTo_get f l k k (by omega), if_neg (by omega)]
theorem mapTo_succ (f : UInt8 → UInt8) (l : List UInt8) (k : Nat) (hk : k < l.length) : mapTo f l (k + 1) = (mapTo f l k).set k (f (l.getD k 0)) := by
  apply List.ext_getElem?
  intro j
  rw [mapTo_get f l _ _ (by omega), List.getElem?_set, mapTo_get f l _ _ (by omega), mapTo_length]
  by_cases e : k = j
  · subst e
    simp [hk, List.getD]
  · rw [if_neg e]
    by_cases h : j < k
    · rw [if_pos (by omega), if_pos h]
    · rw [if_neg (by omega), if_neg h]
theorem mapTo_same (f : UInt8 → UInt8) (l : List UInt8) (k : Nat) (hk : k < l.length) (h : f (l.getD k 0) = l.getD k 0) : mapTo f l (k + 1) = mapTo f l k := by
  apply List.ext_getElem?
  intro j
  rw [mapTo_get f l _ _ (by omega), mapTo_get f l _ _ (by omega)]
  by_cases e : j = k
  · subst e
    rw [if_pos (by omega), if_neg (by omega)]
    simp only [List.getD, List.getElem?_eq_getElem hk, Option.getD_some] at h
    rw [List.getElem?_eq_getElem hk, Option.map_some, h]
  · by_cases h : j < k
    · rw [if_pos (by omega), if_pos h]
    · rw [if_neg (by omega), if_neg h]
def signTab : List Int := [0, 67071226, 3355443198, 1476395007]
theorem sign_tab (c : Int) (h0 : 0 ≤ c) (h1 : c < 128) : (bits BinOp.and IntKind.u32 (signTab.getD (c / 32).toNat 0 / 2 ^ (c % 32).toNat) 1 == 1) = sign c := by
  obtain ⟨n, rfl⟩ := Int.eq_ofNat_of_zero_le h0
  have key : ∀ n : Nat, n < 128 → (bits BinOp.and IntKind.u32 (signTab.getD ((n : Int) / 32).toNat 0 / 2 ^ ((n : Int) % 32).toNat) 1 == 1) = sign n := by decide +kernel
  exact key n (by omega)
theorem sign_big (c : Int) (h0 : 128 ≤ c) : sign c = false := by
  have h1 : alnum c = false := by simp [alnum]; omega
  have h2 : AllTo (fun b => !decide (b = c)) oth oth.size := fun j hj => by
    have h3 : ∀ j : Nat, j < 15 → bt oth j < 128 := by decide +kernel
    have := h3 j (by rw [← oth_size]; exact hj)
    simp
    omega
  rw [sign, h1, allB_true h2]
  rfl
def scan (P : Nat → Bool) (a : Nat) : Nat → Nat
  | 0 => a
  | n + 1 => if P a then scan P (a + 1) n else a
theorem scan_spec (P : Nat → Bool) (n : Nat) : ∀ a, a ≤ scan P a n ∧ scan P a n ≤ a + n ∧ (∀ j, a ≤ j → j < scan P a n → P j = true) ∧ (scan P a n < a + n → P (scan P a n) = false) := by
  induction n with
  | zero => intro a; exact ⟨Nat.le_refl _, Nat.le_refl _, fun j h1 h2 => by simp only [scan] at h2; omega, fun h => by simp only [scan] at h; omega⟩
  | succ n ih =>
    intro a
    unfold scan
    cases hp : P a
    · exact ⟨Nat.le_refl _, by simp, fun j h1 h2 => by simp at h2; omega, fun _ => by simpa using hp⟩
    · obtain ⟨h1, h2, h3, h4⟩ := ih (a + 1)
      simp only [if_true]
      refine ⟨by omega, by omega, fun j g1 g2 => ?_, fun h => h4 (by omega)⟩
      by_cases e : j = a
      · rw [e]; exact hp
      · exact h3 j (by omega) g2
theorem scan_eq {P : Nat → Bool} {a n k : Nat} (h1 : a ≤ k) (h2 : k ≤ a + n) (h3 : ∀ j, a ≤ j → j < k → P j = true) (h4 : k < a + n → P k = false) : scan P a n = k := by
  obtain ⟨g1, g2, g3, g4⟩ := scan_spec P n a
  rcases Nat.lt_trichotomy (scan P a n) k with h | h | h
  · have := h3 _ g1 h
    rw [g4 (by omega)] at this
    cases this
  · exact h
  · have := g3 k h1 h
    rw [h4 (by omega)] at this
    cases this
def Good (P : Nat → Bool) (a k : Nat) : Prop := ∀ j, a ≤ j → j < k → P j = true
theorem Good.zero (P : Nat → Bool) (a : Nat) : Good P a a := fun _ _ _ => by omega
theorem Good.succ {P : Nat → Bool} {a k : Nat} (h : Good P a k) (hk : P k = true) : Good P a (k + 1) := fun j h1 h2 => by
  by_cases e : j = k
  · rw [e]; exact hk
  · exact h j h1 (by omega)
theorem scan_stop {P : Nat → Bool} {a n k : Nat} (h : Good P a k) (h1 : a ≤ k) (h2 : k < a + n) (hk : P k = false) : scan P a n = k := scan_eq h1 (by omega) h (fun _ => hk)
theorem scan_all {P : Nat → Bool} {a n : Nat} (h : Good P a (a + n)) : scan P a n = a + n := scan_eq (by omega) (Nat.le_refl _) h (fun h => by omega)
def place (s : ByteArray) (c : Int) : Nat := scan (fun j => !decide (bt s j = c)) 0 s.size
theorem place_le (s : ByteArray) (c : Int) : place s c ≤ s.size := by have := (scan_spec (fun j => !decide (bt s j = c)) s.size 0).2.1; unfold place; omega
def findB (s : ByteArray) (c : Int) : Int := if place s c = s.size then -1 else (place s c : Int)
theorem scan_shift : ∀ (P : Nat → Bool) (n a : Nat), scan P (a + 1) n = scan (fun j => P (j + 1)) a n + 1 := by
  intro P n
  induction n with
  | zero => intro a; rfl
  | succ n ih =>
    intro a
    unfold scan
    rw [ih]
    split <;> rfl
theorem scan_cons (P : Nat → Bool) (n : Nat) : scan P 0 (n + 1) = if P 0 = true then scan (fun j => P (j + 1)) 0 n + 1 else 0 := by
  rw [← scan_shift]
  rfl
theorem indexByte_scan (c : UInt8) (l : List UInt8) : Lib.indexByte l c = if scan (fun j => !decide (l.getD j 0 = c)) 0 l.length = l.length then -1 else (scan (fun j => !decide (l.getD j 0 = c)) 0 l.length : Int) := by
  induction l with
  | nil => rfl
  | cons b l ih =>
    unfold Lib.indexByte
    rw [ih]
    have e : scan (fun j => !decide ((b :: l).getD j 0 = c)) 0 (b :: l).length = if (!decide (b = c)) = true then scan (fun j => !decide (l.getD j 0 = c)) 0 l.length + 1 else 0 := scan_cons _ _
    rw [e]
    generalize scan (fun j => !decide (l.getD j 0 = c)) 0 l.length = q
    by_cases hb : b = c
    · simp [hb]
    · simp only [hb, decide_false, Bool.not_false, if_true, beq_iff_eq, if_false, List.length_cons, Nat.add_right_cancel_iff]
      by_cases h : q = l.length
      · simp [h]
      · rw [if_neg h, if_neg h, if_neg (by omega)]
        omega
theorem indexByte_eq (s : ByteArray) (c : Int) (h0 : 0 ≤ c) (h1 : c < 256) : Lib.indexByte s.data.toList c.toNat.toUInt8 = findB s c := by
  rw [indexByte_scan, size_eq]
  have e : (fun j => !decide (s.data.toList.getD j 0 = c.toNat.toUInt8)) = fun j => !decide (bt s j = c) := by
    funext j
    congr 1
    apply decide_eq_decide.2
    unfold bt
    have h2 : c.toNat.toUInt8.toNat = c.toNat := by
      show (UInt8.ofNat c.toNat).toNat = _
      rw [UInt8.toNat_ofNat']
      omega
    constructor
    · intro h
      rw [h, h2]
      omega
    · intro h
      apply UInt8.toNat_inj.1
      rw [h2]
      omega
  rw [e]
  rfl
theorem findB_at {s : ByteArray} {c : Int} {k : Nat} (h : Good (fun j => !decide (bt s j = c)) 0 k) (hk : k < s.size) (hc : bt s k = c) : findB s c = k := by
  have e : place s c = k := scan_stop h (by omega) (by omega) (by simp [hc])
  unfold findB
  rw [e, if_neg (by omega)]
theorem findB_none {s : ByteArray} {c : Int} (h : Good (fun j => !decide (bt s j = c)) 0 s.size) : findB s c = -1 := by
  have e : place s c = s.size := by
    have := scan_all (a := 0) (n := s.size) (by rwa [Nat.zero_add])
    rwa [Nat.zero_add] at this
  unfold findB
  rw [e, if_pos rfl]
theorem findB_cases (s : ByteArray) (c : Int) : (findB s c = -1 ∧ place s c = s.size ∧ ∀ j, j < s.size → bt s j ≠ c) ∨ (∃ k : Nat, k < s.size ∧ findB s c = k ∧ place s c = k ∧ bt s k = c ∧ ∀ j, j < k → bt s j ≠ c) := by
  obtain ⟨_, g2, g3, g4⟩ := scan_spec (fun j => !decide (bt s j = c)) s.size 0
  by_cases e : place s c = s.size
  · refine .inl ⟨by unfold findB; rw [if_pos e], e, fun j hj => ?_⟩
    have := g3 j (by omega) (by show j < place s c; omega)
    simpa using this
  · have hlt : place s c < s.size := by have := place_le s c; omega
    refine .inr ⟨place s c, hlt, by unfold findB; rw [if_neg e], rfl, ?_, fun j hj => ?_⟩
    · have := g4 (by show place s c < _; omega)
      simp at this
      exact this
    · have := g3 j (by omega) hj
      simpa using this
def alike (a b : ByteArray) : Bool := decide (lower a = lower b)
theorem eq_str (a b : ByteArray) : (a.toList == b.toList) = decide (a = b) := by
  rw [ByteArray.toList_eq, ByteArray.toList_eq, Bool.eq_iff_iff]
  simp only [beq_iff_eq, decide_eq_true_eq]
  constructor
  · intro h
    apply ByteArray.ext
    exact Array.ext' h
  · intro h; rw [h]
theorem ext_size (s : ByteArray) {a b : Nat} (h : a ≤ b) (hb : b ≤ s.size) : (s.extract a b).size = b - a := by
  rw [ByteArray.size_extract]
  omega
theorem ext_bt (s : ByteArray) {a b : Nat} {j : Nat} (hj : j < b - a) : bt (s.extract a b) j = bt s (a + j) := by
  unfold bt
  rw [Lib.extract_data, List.getD_eq_getElem?_getD, List.getD_eq_getElem?_getD, List.getElem?_take, if_pos hj, List.getElem?_drop]
def trim (s : ByteArray) : ByteArray := ⟨(Lib.trimS s.data.toList [32, 9]).toArray⟩
theorem ext_all (s : ByteArray) {k : Nat} : (s.extract k s.size).data.toList = s.data.toList.drop k := by
  rw [Lib.extract_data, ← size_eq, List.take_of_length_le (by rw [List.length_drop]; exact Nat.le_refl _)]
theorem ext_front (s : ByteArray) (k : Nat) : (s.extract 0 k).data.toList = s.data.toList.take k := by
  rw [Lib.extract_data]; simp
theorem trim_size (s : ByteArray) : (trim s).size ≤ s.size := by
  have h : (Lib.trimS s.data.toList [32, 9]).length ≤ s.data.toList.length := by
    unfold Lib.trimS Lib.trimLeftS Lib.trimRightS
    refine Nat.le_trans (List.dropWhile_sublist _).length_le ?_
    rw [List.length_reverse]
    refine Nat.le_trans (List.dropWhile_sublist _).length_le ?_
    rw [List.length_reverse]
    exact Nat.le_refl _
  rw [size_eq] at h
  exact h
theorem lower_size (s : ByteArray) : (lower s).size = s.size := by
  rw [← size_eq, ← size_eq]
  simp [lower]
def isValue (s : ByteArray) : Bool := decide (s.size ≤ 8192) && (isFld s && decide (trim s = s))
section
variable {s : ByteArray}
variable {k : Nat}
variable (h : ¬ (0 < s.size ∧ blank (bt s 0) = true)) (hk : k < s.size) (h0 : 0 < k) (hc : place s 58 = k) (hgood : Good (fun j => decide (j < 128) && sign (bt s j)) 0 k)
include h hk h0 hc hgood
variable (hin : Good (fun j => inside (bt s j)) (k + 1) s.size)
include hin
end
end Go.Proofs.YtbnafbdhomdcoaaGreatDoor
namespace Go.Proofs.YtbnafbdhomdcoaaGreatDoor
theorem bytes_ext {a b : ByteArray} (h : a.data.toList = b.data.toList) : a = b := by
  apply ByteArray.ext
  exact Array.ext' h
theorem ext_ext (s : ByteArray) (a b : Nat) : (s.extract a s.size).extract b (s.extract a s.size).size = s.extract (a + b) s.size := by
  apply bytes_ext
  rw [ext_all, ext_all, ext_all, List.drop_drop]
end Go.Proofs.YtbnafbdhomdcoaaGreatDoor
namespace Go.Proofs.YtbnafbdhomdcoaaGreatDoor
theorem drop_at (s : ByteArray) {i : Nat} (h : i < s.size) : ∃ b : UInt8, s.data.toList.drop i = b :: s.data.toList.drop (i + 1) ∧ (b.toNat : Int) = bt s i := by
  have h' : i < s.data.toList.length := by rw [size_eq]; exact h
  refine ⟨s.data.toList[i], List.drop_eq_getElem_cons h', ?_⟩
  unfold bt
  rw [List.getD_eq_getElem?_getD, List.getElem?_eq_getElem h']
  rfl
theorem drop_end (s : ByteArray) {i : Nat} (h : s.size ≤ i) : s.data.toList.drop i = [] := List.drop_of_length_le (by rw [size_eq]; exact h)
theorem ba_eta (s : ByteArray) : (⟨s.data.toList.toArray⟩ : ByteArray) = s := bytes_ext rfl
theorem ext_list (s : ByteArray) (a b : Nat) : (s.extract a b).data.toList = (s.data.toList.drop a).take (b - a) := Lib.extract_data s a b
theorem ext_succ (s : ByteArray) {a i : Nat} {b : UInt8} (ha : a ≤ i) (hi : i < s.size) (hb : s.data.toList.drop i = b :: s.data.toList.drop (i + 1)) : (s.extract a (i + 1)).data.toList = (s.extract a i).data.toList ++ [b] := by
  rw [ext_list, ext_list, show i + 1 - a = (i - a) + 1 from by omega]
  have h' : i - a < (s.data.toList.drop a).length := by rw [List.length_drop, size_eq]; omega
  rw [List.take_succ_eq_append_getElem h']
  congr 2
  rw [List.getElem_drop]
  have h2 : i < s.data.toList.length := by rw [size_eq]; exact hi
  have := List.drop_eq_getElem_cons h2
  rw [this] at hb
  injection hb with hb _
  rw [← hb]
  congr 1
  omega
theorem ext_same (s : ByteArray) (a : Nat) : (s.extract a a).data.toList = [] := by rw [ext_list, Nat.sub_self]; rfl
def quRun : List UInt8 → Bool → Option Nat
  | [], _ => none
  | c :: r, true => if inside (c.toNat : Int) = true then (quRun r false).map (· + 1) else none
  | c :: r, false => if (c.toNat : Int) = 34 then some 1 else if (c.toNat : Int) = 92 then (quRun r true).map (· + 1) else if inside (c.toNat : Int) = true then (quRun r false).map (· + 1) else none
theorem quRun_le : ∀ (l : List UInt8) (e : Bool) (k : Nat), quRun l e = some k → 1 ≤ k ∧ k ≤ l.length := by
  intro l
  induction l with
  | nil => intro e k h; simp [quRun] at h
  | cons c r ih =>
    intro e k h
    cases e
    · simp only [quRun] at h
      split at h
      · injection h with h
        subst h
        simp
      · split at h
        · obtain ⟨j, hj, rfl⟩ := Option.map_eq_some_iff.1 h
          have := ih _ _ hj
          simp; omega
        · split at h
          · obtain ⟨j, hj, rfl⟩ := Option.map_eq_some_iff.1 h
            have := ih _ _ hj
            simp; omega
          · cases h
    · simp only [quRun] at h
      split at h
      · obtain ⟨j, hj, rfl⟩ := Option.map_eq_some_iff.1 h
        have := ih _ _ hj
        simp; omega
      · cases h
def quLen (s : ByteArray) : Nat := match quRun (s.data.toList.drop 1) false with
  | none => 0
  | some k => k + 1
theorem quLen_none {s : ByteArray} (h : quRun (s.data.toList.drop 1) false = none) : quLen s = 0 := by unfold quLen; rw [h]
theorem quLen_some {s : ByteArray} {k : Nat} (h : quRun (s.data.toList.drop 1) false = some k) : quLen s = k + 1 := by unfold quLen; rw [h]
theorem quLen_le (s : ByteArray) : quLen s ≤ s.size ∧ (0 < quLen s → 2 ≤ quLen s) := by
  cases h : quRun (s.data.toList.drop 1) false with
  | none => rw [quLen_none h]; omega
  | some k =>
    have := quRun_le _ _ _ h
    rw [quLen_some h]
    rw [List.length_drop, size_eq] at this
    omega
def QuAt (s : ByteArray) (i : Nat) : Prop := quLen s = match quRun (s.data.toList.drop i) false with
  | none => 0
  | some k => k + i
theorem QuAt.start (s : ByteArray) : QuAt s 1 := rfl
section
variable {s : ByteArray} {i : Nat} (h : QuAt s i)
include h
theorem QuAt.end_ (hi : s.size ≤ i) : quLen s = 0 := by
  unfold QuAt at h
  rw [h, drop_end s hi]
  rfl
theorem QuAt.quote (hi : i < s.size) (hb : bt s i = 34) : quLen s = i + 1 := by
  obtain ⟨b, hd, he⟩ := drop_at s hi
  unfold QuAt at h
  rw [h, hd]
  simp only [quRun]
  rw [if_pos (by omega)]
  show 1 + i = i + 1
  omega
theorem QuAt.esc_end (hi : i + 1 = s.size) (hb : bt s i = 92) : quLen s = 0 := by
  obtain ⟨b, hd, he⟩ := drop_at s (i := i) (by omega)
  unfold QuAt at h
  rw [h, hd, drop_end s (by omega)]
  simp only [quRun]
  rw [if_neg (by omega), if_pos (by omega)]
  rfl
theorem QuAt.esc_bad (hi : i + 1 < s.size) (hb : bt s i = 92) (hin : inside (bt s (i + 1)) = false) : quLen s = 0 := by
  obtain ⟨b, hd, he⟩ := drop_at s (i := i) (by omega)
  obtain ⟨b', hd', he'⟩ := drop_at s hi
  unfold QuAt at h
  rw [h, hd, hd']
  simp only [quRun]
  rw [if_neg (by omega), if_pos (by omega), he', hin]
  rfl
theorem QuAt.esc_on (hi : i + 1 < s.size) (hb : bt s i = 92) (hin : inside (bt s (i + 1)) = true) : QuAt s (i + 2) := by
  obtain ⟨b, hd, he⟩ := drop_at s (i := i) (by omega)
  obtain ⟨b', hd', he'⟩ := drop_at s hi
  unfold QuAt at *
  rw [h, hd, hd']
  simp only [quRun]
  rw [if_neg (by omega), if_pos (by omega), he', hin]
  cases quRun (s.data.toList.drop (i + 1 + 1)) false with
  | none => rfl
  | some k => show k + 1 + 1 + i = k + (i + 2); omega
theorem QuAt.bad (hi : i < s.size) (h1 : bt s i ≠ 34) (h2 : bt s i ≠ 92) (hin : inside (bt s i) = false) : quLen s = 0 := by
  obtain ⟨b, hd, he⟩ := drop_at s hi
  unfold QuAt at h
  rw [h, hd]
  simp only [quRun]
  rw [if_neg (by omega), if_neg (by omega), he, hin]
  rfl
theorem QuAt.on (hi : i < s.size) (h1 : bt s i ≠ 34) (h2 : bt s i ≠ 92) (hin : inside (bt s i) = true) : QuAt s (i + 1) := by
  obtain ⟨b, hd, he⟩ := drop_at s hi
  unfold QuAt at *
  rw [h, hd]
  simp only [quRun]
  rw [if_neg (by omega), if_neg (by omega), he, hin]
  cases quRun (s.data.toList.drop (i + 1)) false with
  | none => rfl
  | some k => show k + 1 + i = k + (i + 1); omega
end
def cleanL (l : List ByteArray) : List ByteArray := (l.map trim).filter fun x => !decide (x.size = 0)
theorem cleanL_append (l m : List ByteArray) : cleanL (l ++ m) = cleanL l ++ cleanL m := by simp [cleanL]
theorem cleanL_one (x : ByteArray) : cleanL [x] = if (trim x).size = 0 then [] else [trim x] := by
  unfold cleanL
  by_cases h : (trim x).size = 0
  · rw [if_pos h]
    simp only [List.map_cons, List.map_nil]
    rw [List.filter_cons_of_neg (by simp [h])]
    rfl
  · rw [if_neg h]
    simp only [List.map_cons, List.map_nil]
    rw [List.filter_cons_of_pos (by simp [h])]
    rfl
inductive El where
  | out (cur : List UInt8) (acc : List ByteArray)
  | quo (cur : List UInt8) (acc : List ByteArray)
  | esc (cur : List UInt8) (acc : List ByteArray)
  | bad
def El.step : El → UInt8 → El
  | .bad, _ => .bad
  | .out cur acc, c => if (c.toNat : Int) = 34 then .quo (cur ++ [c]) acc else if (c.toNat : Int) = 44 then .out [] (acc ++ [⟨cur.toArray⟩]) else .out (cur ++ [c]) acc
  | .quo cur acc, c => if (c.toNat : Int) = 34 then .out (cur ++ [c]) acc else if (c.toNat : Int) = 92 then .esc (cur ++ [c]) acc else if inside (c.toNat : Int) = true then .quo (cur ++ [c]) acc else .bad
  | .esc cur acc, c => if inside (c.toNat : Int) = true then .quo (cur ++ [c]) acc else .bad
def El.fin : El → Option (List ByteArray)
  | .out cur acc => some (cleanL (acc ++ [⟨cur.toArray⟩]))
  | _ => none
def elRun (l : List UInt8) (e : El) : Option (List ByteArray) := (l.foldl El.step e).fin
def elems (s : ByteArray) : Option (List ByteArray) := elRun s.data.toList (.out [] [])
theorem elRun_nil (e : El) : elRun [] e = e.fin := rfl
theorem elRun_cons (c : UInt8) (l : List UInt8) (e : El) : elRun (c :: l) e = elRun l (e.step c) := rfl
theorem fold_bad (l : List UInt8) : l.foldl El.step .bad = .bad := by
  induction l with
  | nil => rfl
  | cons c l ih => rw [List.foldl_cons]; exact ih
theorem elRun_bad (l : List UInt8) : elRun l .bad = none := by unfold elRun; rw [fold_bad]; rfl
theorem elRun_quo (l : List UInt8) : ∀ (cur : List UInt8) (acc : List ByteArray),
    (elRun l (.quo cur acc) = match quRun l false with | none => none | some k => elRun (l.drop k) (.out (cur ++ l.take k) acc)) ∧
    (elRun l (.esc cur acc) = match quRun l true with | none => none | some k => elRun (l.drop k) (.out (cur ++ l.take k) acc)) := by
  induction l with
  | nil => intro cur acc; exact ⟨rfl, rfl⟩
  | cons c l ih =>
    intro cur acc
    obtain ⟨ih1, ih2⟩ := ih (cur ++ [c]) acc
    constructor
    · rw [elRun_cons]
      simp only [El.step, quRun]
      by_cases h1 : (c.toNat : Int) = 34
      · rw [if_pos h1, if_pos h1]
        rfl
      · rw [if_neg h1, if_neg h1]
        by_cases h2 : (c.toNat : Int) = 92
        · rw [if_pos h2, if_pos h2, ih2]
          cases quRun l true with
          | none => rfl
          | some k => simp
        · rw [if_neg h2, if_neg h2]
          by_cases h3 : inside (c.toNat : Int) = true
          · rw [if_pos h3, if_pos h3, ih1]
            cases quRun l false with
            | none => rfl
            | some k => simp
          · rw [if_neg h3, if_neg h3, elRun_bad]
    · rw [elRun_cons]
      simp only [El.step, quRun]
      by_cases h3 : inside (c.toNat : Int) = true
      · rw [if_pos h3, if_pos h3, ih1]
        cases quRun l false with
        | none => rfl
        | some k => simp
      · rw [if_neg h3, if_neg h3, elRun_bad]
def ElAt (s : ByteArray) (a i : Nat) (acc : List ByteArray) : Prop := elRun (s.data.toList.drop i) (.out (s.extract a i).data.toList acc) = elems s
theorem ElAt.start (s : ByteArray) : ElAt s 0 0 [] := by
  unfold ElAt elems
  rw [ext_same]
  rfl
section
variable {s : ByteArray} {a i : Nat} {acc : List ByteArray} (h : ElAt s a i acc)
include h
theorem ElAt.end_ (hi : i = s.size) : elems s = some (cleanL (acc ++ [s.extract a s.size])) := by
  subst hi
  unfold ElAt at h
  rw [← h, drop_end s (Nat.le_refl _), elRun_nil]
  simp only [El.fin, ba_eta]
theorem ElAt.comma (_ha : a ≤ i) (hi : i < s.size) (hb : bt s i = 44) : ElAt s (i + 1) (i + 1) (acc ++ [s.extract a i]) := by
  obtain ⟨b, hd, he⟩ := drop_at s hi
  unfold ElAt at *
  rw [← h, hd, elRun_cons]
  simp only [El.step]
  rw [if_neg (by omega), if_pos (by omega), ext_same, ba_eta]
theorem ElAt.on (ha : a ≤ i) (hi : i < s.size) (h1 : bt s i ≠ 34) (h2 : bt s i ≠ 44) : ElAt s a (i + 1) acc := by
  obtain ⟨b, hd, he⟩ := drop_at s hi
  have hx := ext_succ s ha hi hd
  unfold ElAt at *
  rw [← h, hd, elRun_cons]
  simp only [El.step]
  rw [if_neg (by omega), if_neg (by omega), hx]
theorem ElAt.quo_none (_ha : a ≤ i) (hi : i < s.size) (hb : bt s i = 34) (hq : quLen (s.extract i s.size) = 0) : elems s = none := by
  obtain ⟨b, hd, he⟩ := drop_at s hi
  have hr : quRun (s.data.toList.drop (i + 1)) false = none := by
    cases e : quRun (s.data.toList.drop (i + 1)) false with
    | none => rfl
    | some k =>
      have := quLen_some (s := s.extract i s.size) (k := k) (by rw [ext_all, List.drop_drop]; exact e)
      omega
  unfold ElAt at h
  rw [← h, hd, elRun_cons]
  simp only [El.step]
  rw [if_pos (by omega), (elRun_quo _ _ _).1, hr]
theorem ElAt.quo_on (ha : a ≤ i) (hi : i < s.size) (hb : bt s i = 34) (hq : 0 < quLen (s.extract i s.size)) : ElAt s a (i + quLen (s.extract i s.size)) acc := by
  obtain ⟨b, hd, he⟩ := drop_at s hi
  cases e : quRun (s.data.toList.drop (i + 1)) false with
  | none =>
    have := quLen_none (s := s.extract i s.size) (by rw [ext_all, List.drop_drop]; exact e)
    omega
  | some k =>
    have hk := quRun_le _ _ _ e
    rw [List.length_drop, size_eq] at hk
    have hl := quLen_some (s := s.extract i s.size) (k := k) (by rw [ext_all, List.drop_drop]; exact e)
    rw [hl]
    unfold ElAt at *
    rw [← h, hd, elRun_cons]
    simp only [El.step]
    rw [if_pos (by omega), (elRun_quo _ _ _).1, e]
    simp only
    rw [List.drop_drop]
    have hx : (s.extract a (i + (k + 1))).data.toList = (s.extract a i).data.toList ++ [b] ++ (s.data.toList.drop (i + 1)).take k := by
      rw [ext_list, ext_list, show i + (k + 1) - a = (i - a) + (k + 1) from by omega, List.take_add, List.drop_drop, show a + (i - a) = i from by omega, hd, List.take_succ_cons, List.append_assoc]
      rfl
    rw [hx]
    congr 2
    omega
end
theorem clean_size (l : List ByteArray) : ((cleanL l).map (·.size)).sum ≤ (l.map (·.size)).sum := by
  induction l with
  | nil => exact Nat.le_refl _
  | cons x l ih =>
    rw [show x :: l = [x] ++ l from rfl, cleanL_append, List.map_append, List.sum_append, List.map_append, List.sum_append]
    refine Nat.add_le_add ?_ ih
    rw [cleanL_one]
    have := trim_size x
    split <;> simp <;> omega
def Full (l : List ByteArray) : Prop := ∀ x ∈ l, 0 < x.size
theorem cleanL_full (l : List ByteArray) : Full (cleanL l) := fun x hx => by
  unfold cleanL at hx
  have h : decide (x.size = 0) = false := by simpa only [Bool.not_eq_true'] using (List.mem_filter.1 hx).2
  have := of_decide_eq_false h
  omega
theorem Full.le {l : List ByteArray} (h : Full l) : l.length ≤ (l.map (·.size)).sum := by
  induction l with
  | nil => exact Nat.le_refl _
  | cons x l ih =>
    have h1 := h x (by simp)
    have h2 := ih (fun y hy => h y (by simp [hy]))
    simp only [List.length_cons, List.map_cons, List.sum_cons]
    omega
def El.weight : El → Nat
  | .out cur acc => cur.length + (acc.map (·.size)).sum
  | .quo cur acc => cur.length + (acc.map (·.size)).sum
  | .esc cur acc => cur.length + (acc.map (·.size)).sum
  | .bad => 0
theorem El.step_weight (e : El) (c : UInt8) : (e.step c).weight ≤ e.weight + 1 := by
  have hm : ∀ l : List UInt8, (⟨l.toArray⟩ : ByteArray).size = l.length := fun l => by rw [← size_eq]
  cases e with
  | bad => exact Nat.zero_le _
  | out cur acc =>
    simp only [El.step]
    split
    · simp only [El.weight, List.length_append, List.length_cons, List.length_nil]; omega
    · split
      · simp only [El.weight, List.map_append, List.sum_append, List.map_cons, List.map_nil, List.sum_cons, List.sum_nil, hm, List.length_nil]; omega
      · simp only [El.weight, List.length_append, List.length_cons, List.length_nil]; omega
  | quo cur acc =>
    simp only [El.step]
    split
    · simp only [El.weight, List.length_append, List.length_cons, List.length_nil]; omega
    · split
      · simp only [El.weight, List.length_append, List.length_cons, List.length_nil]; omega
      · split
        · simp only [El.weight, List.length_append, List.length_cons, List.length_nil]; omega
        · exact Nat.zero_le _
  | esc cur acc =>
    simp only [El.step]
    split
    · simp only [El.weight, List.length_append, List.length_cons, List.length_nil]; omega
    · exact Nat.zero_le _
theorem elRun_weight (l : List UInt8) : ∀ (e : El) (x : List ByteArray), elRun l e = some x → (x.map (·.size)).sum ≤ e.weight + l.length := by
  induction l with
  | nil =>
    intro e x h
    cases e with
    | out cur acc =>
      rw [elRun_nil] at h
      simp only [El.fin, Option.some.injEq] at h
      subst h
      refine Nat.le_trans (clean_size _) ?_
      have hm : ∀ l : List UInt8, (⟨l.toArray⟩ : ByteArray).size = l.length := fun l => by rw [← size_eq]
      simp only [El.weight, List.map_append, List.sum_append, List.map_cons, List.map_nil, List.sum_cons, List.sum_nil, hm, List.length_nil]
      omega
    | quo cur acc => cases h
    | esc cur acc => cases h
    | bad => cases h
  | cons c l ih =>
    intro e x h
    rw [elRun_cons] at h
    have h1 := ih _ _ h
    have h2 := e.step_weight c
    rw [List.length_cons]
    omega
theorem elRun_full (l : List UInt8) (e : El) (x : List ByteArray) (h : elRun l e = some x) : Full x := by
  unfold elRun at h
  generalize l.foldl El.step e = e' at h
  cases e' with
  | out cur acc =>
    simp only [El.fin, Option.some.injEq] at h
    subst h
    exact cleanL_full _
  | quo cur acc => cases h
  | esc cur acc => cases h
  | bad => cases h
theorem elems_weight {s : ByteArray} {x : List ByteArray} (h : elems s = some x) : (x.map (·.size)).sum ≤ s.size ∧ Full x ∧ x.length ≤ s.size := by
  have h1 := elRun_weight _ _ _ h
  have h2 := elRun_full _ _ _ h
  have h3 := h2.le
  simp only [El.weight, List.map_nil, List.sum_nil, List.length_nil, Nat.zero_add, size_eq] at h1
  exact ⟨h1, h2, by omega⟩
end Go.Proofs.YtbnafbdhomdcoaaGreatDoor
namespace Go.Proofs.YtbnafbdhomdcoaaGreatDoor
def digV (c : Int) : Int := if 48 ≤ c ∧ c ≤ 57 then c - 48 else if 97 ≤ c ∧ c ≤ 102 then c - 87 else if 65 ≤ c ∧ c ≤ 70 then c - 55 else -1
def hexDigits : ByteArray := ⟨#[48, 49, 50, 51, 52, 53, 54, 55, 56, 57, 97, 98, 99, 100, 101, 102]⟩
theorem digV_range (c : Int) : -1 ≤ digV c ∧ digV c < 16 := by
  unfold digV
  split
  · omega
  · split
    · omega
    · split <;> omega
theorem digV_find (c : Int) (h0 : 0 ≤ c) (h1 : c < 256) : findB hexDigits ((lowB (UInt8.ofNat c.toNat)).toNat : Int) = digV c := by
  obtain ⟨n, rfl⟩ := Int.eq_ofNat_of_zero_le h0
  have key : ∀ n : Nat, n < 256 → findB hexDigits ((lowB (UInt8.ofNat n)).toNat : Int) = digV n := by decide +kernel
  exact key n (by omega)
theorem lower_bt (s : ByteArray) {i : Nat} (h : i < s.size) : bt (lower s) i = ((lowB (UInt8.ofNat (bt s i).toNat)).toNat : Int) := by
  have h' : i < s.data.toList.length := by rw [size_eq]; exact h
  unfold bt lower
  simp only [List.getD_eq_getElem?_getD, List.getElem?_map, List.getElem?_eq_getElem h', Option.map_some, Option.getD_some, Int.toNat_natCast, UInt8.ofNat_toNat]
theorem digV_at (s : ByteArray) {i : Nat} (h : i < s.size) : findB hexDigits (bt (lower (s.extract i (i + 1))) 0) = digV (bt s i) ∧ 0 < (lower (s.extract i (i + 1))).size := by
  have hz := ext_size s (a := i) (b := i + 1) (by omega) (by omega)
  have hb : bt (s.extract i (i + 1)) 0 = bt s i := ext_bt s (j := 0) (by omega)
  rw [lower_bt _ (by omega), hb, digV_find _ (bt_nonneg s i) (bt_lt s i), lower_size, hz]
  exact ⟨rfl, by omega⟩
def digOk (base : Int) (c : UInt8) : Bool := decide (0 ≤ digV (c.toNat : Int)) && decide (digV (c.toNat : Int) < base)
def numV (base : Int) (l : List UInt8) : Int := l.foldl (fun n c => n * base + digV (c.toNat : Int)) 0
theorem numV_snoc (b : Int) (l : List UInt8) (c : UInt8) : numV b (l ++ [c]) = numV b l * b + digV (c.toNat : Int) := by simp [numV]
theorem digOk_iff {b : Int} {c : UInt8} : digOk b c = true ↔ (0 ≤ digV (c.toNat : Int) ∧ digV (c.toNat : Int) < b) := by simp [digOk]
theorem snoc_ind {α : Type} {P : List α → Prop} (h0 : P []) (h1 : ∀ l c, P l → P (l ++ [c])) (l : List α) : P l := by
  have : ∀ m : List α, P m.reverse := by
    intro m
    induction m with
    | nil => exact h0
    | cons c m ih => rw [List.reverse_cons]; exact h1 _ _ ih
  have h := this l.reverse
  rwa [List.reverse_reverse] at h
theorem numV_nonneg {b : Int} (hb : 0 ≤ b) : ∀ l : List UInt8, l.all (digOk b) = true → 0 ≤ numV b l := by
  refine snoc_ind (fun _ => Int.le_refl _) fun l c ih h => ?_
  rw [List.all_append] at h
  simp only [List.all_cons, List.all_nil, Bool.and_true, Bool.and_eq_true] at h
  have h1 := ih h.1
  have h2 := (digOk_iff.1 h.2).1
  have h3 := Int.mul_nonneg h1 hb
  rw [numV_snoc]
  omega
def numR (s : ByteArray) (most base : Int) : Int × Int :=
  if s.size = 0 ∨ s.data.toList.all (digOk base) = false then (0, 11) else if most < numV base s.data.toList then (0, 12) else (numV base s.data.toList, 0)
def Digs (base : Int) (s : ByteArray) (k : Nat) : Prop := (s.data.toList.take k).all (digOk base) = true
theorem take_at (s : ByteArray) {i : Nat} (h : i < s.size) : ∃ c : UInt8, s.data.toList.take (i + 1) = s.data.toList.take i ++ [c] ∧ (c.toNat : Int) = bt s i := by
  have h' : i < s.data.toList.length := by rw [size_eq]; exact h
  refine ⟨s.data.toList[i], List.take_succ_eq_append_getElem h', ?_⟩
  unfold bt
  rw [List.getD_eq_getElem?_getD, List.getElem?_eq_getElem h']
  rfl
theorem take_full (s : ByteArray) : s.data.toList.take s.size = s.data.toList := List.take_of_length_le (by rw [size_eq]; exact Nat.le_refl _)
section
variable {s : ByteArray} {base : Int}
theorem Digs.zero : Digs base s 0 := by unfold Digs; rw [List.take_zero]; rfl
theorem Digs.succ {k : Nat} (h : Digs base s k) (hk : k < s.size) (h0 : 0 ≤ digV (bt s k)) (h1 : digV (bt s k) < base) : Digs base s (k + 1) := by
  obtain ⟨c, hc, he⟩ := take_at s hk
  unfold Digs at *
  rw [hc, List.all_append, h]
  simp [digOk_iff, he, h0, h1]
theorem numV_at {k : Nat} (hk : k < s.size) : numV base (s.data.toList.take (k + 1)) = numV base (s.data.toList.take k) * base + digV (bt s k) := by
  obtain ⟨c, hc, he⟩ := take_at s hk
  rw [hc, numV_snoc, he]
theorem Digs.pos {k : Nat} (h : Digs base s k) (hb : 0 ≤ base) : 0 ≤ numV base (s.data.toList.take k) := numV_nonneg hb _ h
variable {most : Int}
theorem numR_empty (h : s.size = 0) : numR s most base = (0, 11) := by unfold numR; rw [if_pos (.inl h)]
theorem numR_bad {k : Nat} (hk : k < s.size) (h : digV (bt s k) < 0 ∨ base ≤ digV (bt s k)) : numR s most base = (0, 11) := by
  have hl : k < s.data.toList.length := by rw [size_eq]; exact hk
  have : s.data.toList.all (digOk base) = false := by
    rw [List.all_eq_false]
    refine ⟨s.data.toList[k], List.getElem_mem hl, ?_⟩
    rw [digOk_iff]
    have e : ((s.data.toList[k].toNat : Nat) : Int) = bt s k := by
      unfold bt
      rw [List.getD_eq_getElem?_getD, List.getElem?_eq_getElem hl]
      rfl
    rw [e]
    omega
  unfold numR
  rw [if_pos (.inr this)]
theorem numR_big (hz : 0 < s.size) (h : Digs base s s.size) (hb : most < numV base (s.data.toList.take s.size)) : numR s most base = (0, 12) := by
  unfold Digs at h
  rw [take_full] at h hb
  unfold numR
  rw [if_neg (by rintro (h1 | h1); · omega
                 · rw [h] at h1; cases h1), if_pos hb]
theorem numR_ok (hz : 0 < s.size) (h : Digs base s s.size) (hb : ¬ most < numV base (s.data.toList.take s.size)) : numR s most base = (numV base (s.data.toList.take s.size), 0) := by
  unfold Digs at h
  rw [take_full] at *
  unfold numR
  rw [if_neg (by rintro (h1 | h1); · omega
                 · rw [h] at h1; cases h1), if_neg hb]
end
theorem numR_range (s : ByteArray) (most : Int) (h : 0 ≤ most) : 0 ≤ (numR s most 10).1 ∧ (numR s most 10).1 ≤ most ∧ 0 ≤ (numR s most 10).2 ∧ (numR s most 10).2 ≤ 12 := by
  unfold numR
  split
  · simp; omega
  · split
    · simp; omega
    · rename_i h1 h2
      have h3 : s.data.toList.all (digOk 10) = true := by
        cases e : s.data.toList.all (digOk 10)
        · exact absurd (.inr e) h1
        · rfl
      have := numV_nonneg (b := 10) (by omega) _ h3
      simp only
      omega
def isIn (l : List ByteArray) (s : ByteArray) : Bool := l.any fun x => decide (x = s)
theorem isIn_iff {l : List ByteArray} {s : ByteArray} : isIn l s = true ↔ s ∈ l := by
  unfold isIn
  rw [List.any_eq_true]
  constructor
  · rintro ⟨x, hx, h⟩
    have := of_decide_eq_true h
    rwa [this] at hx
  · intro h
    exact ⟨s, h, decide_eq_true rfl⟩
end Go.Proofs.YtbnafbdhomdcoaaGreatDoor
