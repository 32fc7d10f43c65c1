/-
  Plain words on bytes and texts: what the functions of the layers compute, without any program in sight.
-/
import Derived.WalkKit
import Derived.Lib.SlTrimSet
import Derived.Lib.Bytealg
namespace Go.Proofs.YtdipogmlpmkgcaaGreatDoor

/-- The byte of a text at a place, as a number. -/
def bt (s : ByteArray) (j : Nat) : Int := ((s.data.toList.getD j 0).toNat : Int)
theorem bt_eq {s : ByteArray} {k : Nat} (h : k < s.size) : ((s[k].toNat : Nat) : Int) = bt s k := by
  have h' : k < s.data.toList.length := by simpa using h
  unfold bt
  rw [List.getD_eq_getElem?_getD, List.getElem?_eq_getElem h']
  rfl
theorem bt_nonneg (s : ByteArray) (k : Nat) : 0 ≤ bt s k := by unfold bt; omega
theorem bt_lt (s : ByteArray) (k : Nat) : bt s k < 256 := by
  unfold bt
  have := (s.data.toList.getD k 0).toNat_lt
  omega
theorem size_eq (s : ByteArray) : s.data.toList.length = s.size := by rw [Array.length_toList]; rfl

/-- All bytes ahead of a place are of a class. -/
def AllTo (P : Int → Bool) (s : ByteArray) (k : Nat) : Prop := ∀ j, j < k → P (bt s j) = true
theorem AllTo.zero (P : Int → Bool) (s : ByteArray) : AllTo P s 0 := fun _ h => by omega
theorem AllTo.succ {P : Int → Bool} {s : ByteArray} {k : Nat} (h : AllTo P s k) (hk : P (bt s k) = true) : AllTo P s (k + 1) := fun j hj => by
  by_cases e : j = k
  · rw [e]; exact hk
  · exact h j (by omega)
def allB (P : Int → Bool) (s : ByteArray) : Bool := s.data.toList.all fun b => P (b.toNat : Int)
theorem allB_true {P : Int → Bool} {s : ByteArray} (h : AllTo P s s.size) : allB P s = true := by
  unfold allB
  rw [List.all_eq_true]
  intro b hb
  obtain ⟨j, hj, rfl⟩ := List.getElem_of_mem hb
  have := h j (by rw [← size_eq]; exact hj)
  unfold bt at this
  rwa [List.getD_eq_getElem?_getD, List.getElem?_eq_getElem hj] at this
theorem allB_false {P : Int → Bool} {s : ByteArray} {k : Nat} (hk : k < s.size) (h : P (bt s k) = false) : allB P s = false := by
  unfold allB
  rw [List.all_eq_false]
  have hj : k < s.data.toList.length := by rw [size_eq]; exact hk
  refine ⟨s.data.toList[k], List.getElem_mem hj, ?_⟩
  unfold bt at h
  rw [List.getD_eq_getElem?_getD, List.getElem?_eq_getElem hj] at h
  simpa using h
theorem allB_at {P : Int → Bool} {s : ByteArray} (h : allB P s = true) : AllTo P s s.size := fun j hj => by
  cases e : P (bt s j)
  · rw [allB_false hj e] at h; cases h
  · rfl

/-- Layer 1's classes of bytes. -/
def alnum (c : Int) : Bool := (decide (48 ≤ c) && decide (c ≤ 57)) || (decide (65 ≤ c) && decide (c ≤ 90)) || (decide (97 ≤ c) && decide (c ≤ 122))
def oth : ByteArray := ⟨#[33, 35, 36, 37, 38, 39, 42, 43, 45, 46, 94, 95, 96, 124, 126]⟩
theorem oth_size : oth.size = 15 := rfl
def sign (c : Int) : Bool := alnum c || !allB (fun b => !decide (b = c)) oth
def inside (c : Int) : Bool := decide (c = 9) || (decide (32 ≤ c) && !decide (c = 127))
theorem inside_low {c : Int} (h : c < 32) (h9 : (c == 9) = false) : inside c = false := by
  have h9' : ¬ c = 9 := by simpa using h9
  unfold inside
  rw [decide_eq_false h9', decide_eq_false (show ¬ 32 ≤ c by omega)]
  rfl
theorem inside_high {c : Int} (h : 32 ≤ c) (h127 : (c != 127) = true) : inside c = true := by
  have h' : ¬ c = 127 := by simpa using h127
  unfold inside
  rw [decide_eq_true h, decide_eq_false h']
  simp
def blank (c : Int) : Bool := decide (c = 32) || decide (c = 9)
theorem blank_no {c : Int} (h1 : (c == 32) = false) (h2 : (c == 9) = false) : blank c = false := by
  have h1' : ¬ c = 32 := by simpa using h1
  have h2' : ¬ c = 9 := by simpa using h2
  unfold blank
  rw [decide_eq_false h1', decide_eq_false h2']
  rfl
theorem pos_eq (n : Nat) : decide (0 < n) = (true && !decide (n = 0)) := by
  cases n with
  | zero => rfl
  | succ n =>
    rw [decide_eq_true (show 0 < n + 1 by omega), decide_eq_false (show ¬ n + 1 = 0 by omega)]
    rfl
def isTok (s : ByteArray) : Bool := allB sign s && !decide (s.size = 0)
theorem empty_eq (s : ByteArray) : s.toList.isEmpty = decide (s.size = 0) := by
  rw [ByteArray.toList_eq, ← size_eq]
  cases s.data.toList <;> simp
def isFld (s : ByteArray) : Bool := allB inside s

/-- Small letters. -/
def lowB (b : UInt8) : UInt8 := if 65 ≤ b.toNat ∧ b.toNat ≤ 90 then UInt8.ofNat (b.toNat + 32) else b
def lower (s : ByteArray) : ByteArray := ⟨(s.data.toList.map lowB).toArray⟩
theorem lowB_in {b : UInt8} (h : 65 ≤ (b.toNat : Int) ∧ (b.toNat : Int) ≤ 90) : ((lowB b).toNat : Int) = (b.toNat : Int) + 32 := by
  unfold lowB
  rw [if_pos (by omega), UInt8.toNat_ofNat']
  omega
theorem lowB_out {b : UInt8} (h : ¬ (65 ≤ (b.toNat : Int) ∧ (b.toNat : Int) ≤ 90)) : lowB b = b := by
  unfold lowB
  rw [if_neg (by omega)]
/-- The first places mapped, the others as they were. -/
def mapTo (f : UInt8 → UInt8) (l : List UInt8) (k : Nat) : List UInt8 := (l.take k).map f ++ l.drop k
theorem mapTo_zero (f : UInt8 → UInt8) (l : List UInt8) : mapTo f l 0 = l := by simp [mapTo]
theorem mapTo_all (f : UInt8 → UInt8) (l : List UInt8) : mapTo f l l.length = l.map f := by simp [mapTo]
theorem mapTo_length (f : UInt8 → UInt8) (l : List UInt8) (k : Nat) : (mapTo f l k).length = l.length := by simp [mapTo]; omega
theorem mapTo_get (f : UInt8 → UInt8) (l : List UInt8) (k j : Nat) (hk : k ≤ l.length) : (mapTo f l k)[j]? = if j < k then l[j]?.map f else l[j]? := by
  have h : ((l.take k).map f).length = k := by simp; omega
  unfold mapTo
  rw [List.getElem?_append, h]
  by_cases e : j < k
  · rw [if_pos e, if_pos e, List.getElem?_map, List.getElem?_take, if_pos e]
  · rw [if_neg e, if_neg e, List.getElem?_drop]
    congr 1
    omega
theorem mapTo_getD (f : UInt8 → UInt8) (l : List UInt8) (k : Nat) (hk : k < l.length) : (mapTo f l k).getD k 0 = l.getD k 0 := by
  rw [List.getD_eq_getElem?_getD, List.getD_eq_getElem?_getD, mapTo_get f l k k (by omega), if_neg (by omega)]
theorem mapTo_succ (f : UInt8 → UInt8) (l : List UInt8) (k : Nat) (hk : k < l.length) : mapTo f l (k + 1) = (mapTo f l k).set k (f (l.getD k 0)) := by
  apply List.ext_getElem?
  intro j
  rw [mapTo_get f l _ _ (by omega), List.getElem?_set, mapTo_get f l _ _ (by omega), mapTo_length]
  by_cases e : k = j
  · subst e
    simp [hk, List.getD]
  · rw [if_neg e]
    by_cases h : j < k
    · rw [if_pos (by omega), if_pos h]
    · rw [if_neg (by omega), if_neg h]
theorem mapTo_same (f : UInt8 → UInt8) (l : List UInt8) (k : Nat) (hk : k < l.length) (h : f (l.getD k 0) = l.getD k 0) : mapTo f l (k + 1) = mapTo f l k := by
  apply List.ext_getElem?
  intro j
  rw [mapTo_get f l _ _ (by omega), mapTo_get f l _ _ (by omega)]
  by_cases e : j = k
  · subst e
    rw [if_pos (by omega), if_neg (by omega)]
    simp only [List.getD, List.getElem?_eq_getElem hk, Option.getD_some] at h
    rw [List.getElem?_eq_getElem hk, Option.map_some, h]
  · by_cases h : j < k
    · rw [if_pos (by omega), if_pos h]
    · rw [if_neg (by omega), if_neg h]

def signTab : List Int := [0, 67071226, 3355443198, 1476395007]
theorem sign_tab (c : Int) (h0 : 0 ≤ c) (h1 : c < 128) : (bits BinOp.and IntKind.u32 (signTab.getD (c / 32).toNat 0 / 2 ^ (c % 32).toNat) 1 == 1) = sign c := by
  obtain ⟨n, rfl⟩ := Int.eq_ofNat_of_zero_le h0
  have key : ∀ n : Nat, n < 128 → (bits BinOp.and IntKind.u32 (signTab.getD ((n : Int) / 32).toNat 0 / 2 ^ ((n : Int) % 32).toNat) 1 == 1) = sign n := by decide +kernel
  exact key n (by omega)
theorem sign_big (c : Int) (h0 : 128 ≤ c) : sign c = false := by
  have h1 : alnum c = false := by simp [alnum]; omega
  have h2 : AllTo (fun b => !decide (b = c)) oth oth.size := fun j hj => by
    have h3 : ∀ j : Nat, j < 15 → bt oth j < 128 := by decide +kernel
    have := h3 j (by rw [← oth_size]; exact hj)
    simp
    omega
  rw [sign, h1, allB_true h2]
  rfl

/-- The first place from a on, of n places, at which P does not hold; a + n if there is none. -/
def scan (P : Nat → Bool) (a : Nat) : Nat → Nat
  | 0 => a
  | n + 1 => if P a then scan P (a + 1) n else a
theorem scan_spec (P : Nat → Bool) (n : Nat) : ∀ a, a ≤ scan P a n ∧ scan P a n ≤ a + n ∧ (∀ j, a ≤ j → j < scan P a n → P j = true) ∧ (scan P a n < a + n → P (scan P a n) = false) := by
  induction n with
  | zero => intro a; exact ⟨Nat.le_refl _, Nat.le_refl _, fun j h1 h2 => by simp only [scan] at h2; omega, fun h => by simp only [scan] at h; omega⟩
  | succ n ih =>
    intro a
    unfold scan
    cases hp : P a
    · exact ⟨Nat.le_refl _, by simp, fun j h1 h2 => by simp at h2; omega, fun _ => by simpa using hp⟩
    · obtain ⟨h1, h2, h3, h4⟩ := ih (a + 1)
      simp only [if_true]
      refine ⟨by omega, by omega, fun j g1 g2 => ?_, fun h => h4 (by omega)⟩
      by_cases e : j = a
      · rw [e]; exact hp
      · exact h3 j (by omega) g2
theorem scan_eq {P : Nat → Bool} {a n k : Nat} (h1 : a ≤ k) (h2 : k ≤ a + n) (h3 : ∀ j, a ≤ j → j < k → P j = true) (h4 : k < a + n → P k = false) : scan P a n = k := by
  obtain ⟨g1, g2, g3, g4⟩ := scan_spec P n a
  rcases Nat.lt_trichotomy (scan P a n) k with h | h | h
  · have := h3 _ g1 h
    rw [g4 (by omega)] at this
    cases this
  · exact h
  · have := g3 k h1 h
    rw [h4 (by omega)] at this
    cases this
/-- Every place from a up to k is good. -/
def Good (P : Nat → Bool) (a k : Nat) : Prop := ∀ j, a ≤ j → j < k → P j = true
theorem Good.zero (P : Nat → Bool) (a : Nat) : Good P a a := fun _ _ _ => by omega
theorem Good.succ {P : Nat → Bool} {a k : Nat} (h : Good P a k) (hk : P k = true) : Good P a (k + 1) := fun j h1 h2 => by
  by_cases e : j = k
  · rw [e]; exact hk
  · exact h j h1 (by omega)
theorem scan_stop {P : Nat → Bool} {a n k : Nat} (h : Good P a k) (h1 : a ≤ k) (h2 : k < a + n) (hk : P k = false) : scan P a n = k := scan_eq h1 (by omega) h (fun _ => hk)
theorem scan_all {P : Nat → Bool} {a n : Nat} (h : Good P a (a + n)) : scan P a n = a + n := scan_eq (by omega) (Nat.le_refl _) h (fun h => by omega)

/-- Where a byte first stands; the size if nowhere. -/
def place (s : ByteArray) (c : Int) : Nat := scan (fun j => !decide (bt s j = c)) 0 s.size
theorem place_le (s : ByteArray) (c : Int) : place s c ≤ s.size := by have := (scan_spec (fun j => !decide (bt s j = c)) s.size 0).2.1; unfold place; omega
/-- The same, with -1 for nowhere. -/
def findB (s : ByteArray) (c : Int) : Int := if place s c = s.size then -1 else (place s c : Int)
theorem scan_shift : ∀ (P : Nat → Bool) (n a : Nat), scan P (a + 1) n = scan (fun j => P (j + 1)) a n + 1 := by
  intro P n
  induction n with
  | zero => intro a; rfl
  | succ n ih =>
    intro a
    unfold scan
    rw [ih]
    split <;> rfl
theorem scan_cons (P : Nat → Bool) (n : Nat) : scan P 0 (n + 1) = if P 0 = true then scan (fun j => P (j + 1)) 0 n + 1 else 0 := by
  rw [← scan_shift]
  rfl
theorem indexByte_scan (c : UInt8) (l : List UInt8) : Lib.indexByte l c = if scan (fun j => !decide (l.getD j 0 = c)) 0 l.length = l.length then -1 else (scan (fun j => !decide (l.getD j 0 = c)) 0 l.length : Int) := by
  induction l with
  | nil => rfl
  | cons b l ih =>
    unfold Lib.indexByte
    rw [ih]
    have e : scan (fun j => !decide ((b :: l).getD j 0 = c)) 0 (b :: l).length = if (!decide (b = c)) = true then scan (fun j => !decide (l.getD j 0 = c)) 0 l.length + 1 else 0 := scan_cons _ _
    rw [e]
    generalize scan (fun j => !decide (l.getD j 0 = c)) 0 l.length = q
    by_cases hb : b = c
    · simp [hb]
    · simp only [hb, decide_false, Bool.not_false, if_true, beq_iff_eq, if_false, List.length_cons, Nat.add_right_cancel_iff]
      by_cases h : q = l.length
      · simp [h]
      · rw [if_neg h, if_neg h, if_neg (by omega)]
        omega
theorem indexByte_eq (s : ByteArray) (c : Int) (h0 : 0 ≤ c) (h1 : c < 256) : Lib.indexByte s.data.toList c.toNat.toUInt8 = findB s c := by
  rw [indexByte_scan, size_eq]
  have e : (fun j => !decide (s.data.toList.getD j 0 = c.toNat.toUInt8)) = fun j => !decide (bt s j = c) := by
    funext j
    congr 1
    apply decide_eq_decide.2
    unfold bt
    have h2 : c.toNat.toUInt8.toNat = c.toNat := by
      show (UInt8.ofNat c.toNat).toNat = _
      rw [UInt8.toNat_ofNat']
      omega
    constructor
    · intro h
      rw [h, h2]
      omega
    · intro h
      apply UInt8.toNat_inj.1
      rw [h2]
      omega
  rw [e]
  rfl

theorem findB_at {s : ByteArray} {c : Int} {k : Nat} (h : Good (fun j => !decide (bt s j = c)) 0 k) (hk : k < s.size) (hc : bt s k = c) : findB s c = k := by
  have e : place s c = k := scan_stop h (by omega) (by omega) (by simp [hc])
  unfold findB
  rw [e, if_neg (by omega)]
theorem findB_none {s : ByteArray} {c : Int} (h : Good (fun j => !decide (bt s j = c)) 0 s.size) : findB s c = -1 := by
  have e : place s c = s.size := by
    have := scan_all (a := 0) (n := s.size) (by rwa [Nat.zero_add])
    rwa [Nat.zero_add] at this
  unfold findB
  rw [e, if_pos rfl]
theorem findB_cases (s : ByteArray) (c : Int) : (findB s c = -1 ∧ place s c = s.size ∧ ∀ j, j < s.size → bt s j ≠ c) ∨ (∃ k : Nat, k < s.size ∧ findB s c = k ∧ place s c = k ∧ bt s k = c ∧ ∀ j, j < k → bt s j ≠ c) := by
  obtain ⟨_, g2, g3, g4⟩ := scan_spec (fun j => !decide (bt s j = c)) s.size 0
  by_cases e : place s c = s.size
  · refine .inl ⟨by unfold findB; rw [if_pos e], e, fun j hj => ?_⟩
    have := g3 j (by omega) (by show j < place s c; omega)
    simpa using this
  · have hlt : place s c < s.size := by have := place_le s c; omega
    refine .inr ⟨place s c, hlt, by unfold findB; rw [if_neg e], rfl, ?_, fun j hj => ?_⟩
    · have := g4 (by show place s c < _; omega)
      simp at this
      exact this
    · have := g3 j (by omega) hj
      simpa using this

def alike (a b : ByteArray) : Bool := decide (lower a = lower b)

theorem eq_str (a b : ByteArray) : (a.toList == b.toList) = decide (a = b) := by
  rw [ByteArray.toList_eq, ByteArray.toList_eq, Bool.eq_iff_iff]
  simp only [beq_iff_eq, decide_eq_true_eq]
  constructor
  · intro h
    apply ByteArray.ext
    exact Array.ext' h
  · intro h; rw [h]

/-- A piece of a text. -/
theorem ext_size (s : ByteArray) {a b : Nat} (h : a ≤ b) (hb : b ≤ s.size) : (s.extract a b).size = b - a := by
  rw [ByteArray.size_extract]
  omega
theorem ext_bt (s : ByteArray) {a b : Nat} {j : Nat} (hj : j < b - a) : bt (s.extract a b) j = bt s (a + j) := by
  unfold bt
  rw [Lib.extract_data, List.getD_eq_getElem?_getD, List.getD_eq_getElem?_getD, List.getElem?_take, if_pos hj, List.getElem?_drop]
theorem isTok_one (s : ByteArray) {i : Nat} (h : i < s.size) : isTok (s.extract i (i + 1)) = sign (bt s i) := by
  have hs := ext_size s (a := i) (b := i + 1) (by omega) (by omega)
  have hb : bt (s.extract i (i + 1)) 0 = bt s i := ext_bt s (j := 0) (by omega)
  have hz : decide ((s.extract i (i + 1)).size = 0) = false := by rw [hs]; simp
  cases e : sign (bt s i)
  · rw [isTok, allB_false (k := 0) (by omega) (by rw [hb]; exact e)]; rfl
  · rw [isTok, allB_true (fun j hj => by obtain rfl : j = 0 := by omega
                                         rw [hb]; exact e), hz]; rfl
theorem isFld_one (s : ByteArray) {i : Nat} (h : i < s.size) : isFld (s.extract i (i + 1)) = inside (bt s i) := by
  have hs := ext_size s (a := i) (b := i + 1) (by omega) (by omega)
  have hb : bt (s.extract i (i + 1)) 0 = bt s i := ext_bt s (j := 0) (by omega)
  cases e : inside (bt s i)
  · rw [isFld, allB_false (k := 0) (by omega) (by rw [hb]; exact e)]
  · rw [isFld, allB_true (fun j hj => by obtain rfl : j = 0 := by omega
                                         rw [hb]; exact e)]

/-- Without the blanks around. -/
def trim (s : ByteArray) : ByteArray := ⟨(Lib.trimS s.data.toList [32, 9]).toArray⟩
def trimL (s : ByteArray) : ByteArray := ⟨(Lib.trimLeftS s.data.toList [32, 9]).toArray⟩
def trimR (s : ByteArray) : ByteArray := ⟨(Lib.trimRightS s.data.toList [32, 9]).toArray⟩
theorem drop_comm (p : UInt8 → Bool) : ∀ l : List UInt8, ((l.dropWhile p).reverse.dropWhile p).reverse = ((l.reverse.dropWhile p).reverse).dropWhile p := by
  have step : ∀ (x : UInt8) (l : List UInt8), ((x :: l).reverse.dropWhile p).reverse = if (l.reverse.dropWhile p).reverse = [] then (if p x = true then [] else [x]) else x :: (l.reverse.dropWhile p).reverse := by
    intro x l
    rw [List.reverse_cons, List.dropWhile_append]
    cases h : l.reverse.dropWhile p with
    | nil =>
      rw [if_pos List.isEmpty_nil, if_pos List.reverse_nil]
      by_cases hx : p x = true
      · rw [List.dropWhile_cons_of_pos hx, if_pos hx]; rfl
      · rw [List.dropWhile_cons_of_neg hx, if_neg hx]; rfl
    | cons y m =>
      rw [if_neg (by simp), if_neg (by simp), List.reverse_append]
      rfl
  intro l
  induction l with
  | nil => rfl
  | cons x l ih =>
    by_cases hx : p x = true
    · rw [List.dropWhile_cons_of_pos hx, ih, step]
      by_cases h : (l.reverse.dropWhile p).reverse = []
      · rw [if_pos h, if_pos hx, h]
      · rw [if_neg h, List.dropWhile_cons_of_pos hx]
    · rw [List.dropWhile_cons_of_neg hx, step]
      by_cases h : (l.reverse.dropWhile p).reverse = []
      · rw [if_pos h, if_neg hx, List.dropWhile_cons_of_neg hx]
      · rw [if_neg h, List.dropWhile_cons_of_neg hx]
theorem trim_comm_list (cs : List UInt8) (l : List UInt8) : Lib.trimRightS (Lib.trimLeftS l cs) cs = Lib.trimS l cs := drop_comm _ l
theorem trim_comm (s : ByteArray) : trimR (trimL s) = trim s := by
  unfold trimR trimL trim
  rw [show (⟨(Lib.trimLeftS s.data.toList [32, 9]).toArray⟩ : ByteArray).data.toList = Lib.trimLeftS s.data.toList [32, 9] from rfl, trim_comm_list]

theorem ext_all (s : ByteArray) {k : Nat} : (s.extract k s.size).data.toList = s.data.toList.drop k := by
  rw [Lib.extract_data, ← size_eq, List.take_of_length_le (by rw [List.length_drop]; exact Nat.le_refl _)]
theorem blank_mem (b : UInt8) : ([32, 9] : List UInt8).contains b = blank (b.toNat : Int) := by
  have key : ∀ n : Fin 256, ([32, 9] : List UInt8).contains (UInt8.ofNat n.val) = blank (n.val : Int) := by decide +kernel
  have h := key ⟨b.toNat, b.toNat_lt⟩
  simpa using h
/-- One blank less at the front, or at the end. -/
theorem trimL_step (t : ByteArray) (h0 : 0 < t.size) (h : blank (bt t 0) = true) : trimL (t.extract 1 t.size) = trimL t := by
  unfold trimL
  rw [ext_all]
  congr 2
  have hl : 0 < t.data.toList.length := by rw [size_eq]; exact h0
  cases e : t.data.toList with
  | nil => rw [e] at hl; simp at hl
  | cons x l =>
    have hb : ([32, 9] : List UInt8).contains x = true := by
      rw [blank_mem, ← h]
      unfold bt
      rw [e]
      rfl
    show _ = List.dropWhile _ (x :: l)
    rw [List.dropWhile_cons_of_pos hb]
    rfl
theorem trimL_stop (t : ByteArray) (h : t.size = 0 ∨ blank (bt t 0) = false) : trimL t = t := by
  unfold trimL
  have : Lib.trimLeftS t.data.toList [32, 9] = t.data.toList := by
    cases e : t.data.toList with
    | nil => rfl
    | cons x l =>
      have hb : ¬ ([32, 9] : List UInt8).contains x = true := by
        rw [blank_mem]
        rcases h with h | h
        · rw [← size_eq, e] at h; simp at h
        · unfold bt at h
          rw [e] at h
          simp at h
          simp [h]
      show List.dropWhile _ (x :: l) = _
      rw [List.dropWhile_cons_of_neg hb]
  rw [this]
theorem ext_front (s : ByteArray) (k : Nat) : (s.extract 0 k).data.toList = s.data.toList.take k := by
  rw [Lib.extract_data]; simp
theorem trimR_step (t : ByteArray) (h0 : 0 < t.size) (h : blank (bt t (t.size - 1)) = true) : trimR (t.extract 0 (t.size - 1)) = trimR t := by
  unfold trimR
  rw [ext_front, ← size_eq, ← List.dropLast_eq_take]
  congr 2
  have hne : t.data.toList ≠ [] := by
    intro e
    rw [← size_eq, e] at h0
    simp at h0
  have e := List.dropLast_concat_getLast hne
  have hb : ([32, 9] : List UInt8).contains (t.data.toList.getLast hne) = true := by
    rw [blank_mem, ← h]
    unfold bt
    rw [List.getLast_eq_getElem, ← size_eq, List.getD_eq_getElem?_getD, List.getElem?_eq_getElem]
    rfl
  generalize t.data.toList.getLast hne = x at e hb
  generalize t.data.toList.dropLast = l at e
  rw [← e]
  show Lib.trimRightS l _ = (List.dropWhile _ (l ++ [x]).reverse).reverse
  rw [List.reverse_append]
  show _ = (List.dropWhile _ (x :: l.reverse)).reverse
  rw [List.dropWhile_cons_of_pos hb]
  rfl
theorem trimR_stop (t : ByteArray) (h : t.size = 0 ∨ blank (bt t (t.size - 1)) = false) : trimR t = t := by
  unfold trimR
  have : Lib.trimRightS t.data.toList [32, 9] = t.data.toList := by
    by_cases hne : t.data.toList = []
    · rw [hne]; rfl
    · have e := List.dropLast_concat_getLast hne
      have hb : ¬ ([32, 9] : List UInt8).contains (t.data.toList.getLast hne) = true := by
        rw [blank_mem]
        rcases h with h | h
        · exact absurd (List.eq_nil_of_length_eq_zero (by rw [size_eq]; exact h)) hne
        · unfold bt at h
          rw [← size_eq, List.getD_eq_getElem?_getD, List.getElem?_eq_getElem (by have := List.length_pos_iff.2 hne; omega), Option.getD_some] at h
          rw [List.getLast_eq_getElem, h]
          simp
      generalize t.data.toList.getLast hne = x at e hb
      generalize t.data.toList.dropLast = l at e
      rw [← e]
      show (List.dropWhile _ (l ++ [x]).reverse).reverse = _
      rw [List.reverse_append]
      show (List.dropWhile _ (x :: l.reverse)).reverse = _
      rw [List.dropWhile_cons_of_neg hb]
      simp
  rw [this]
theorem trim_size (s : ByteArray) : (trim s).size ≤ s.size := by
  have h : (Lib.trimS s.data.toList [32, 9]).length ≤ s.data.toList.length := by
    unfold Lib.trimS Lib.trimLeftS Lib.trimRightS
    refine Nat.le_trans (List.dropWhile_sublist _).length_le ?_
    rw [List.length_reverse]
    refine Nat.le_trans (List.dropWhile_sublist _).length_le ?_
    rw [List.length_reverse]
    exact Nat.le_refl _
  rw [size_eq] at h
  exact h
theorem trimL_size (s : ByteArray) : (trimL s).size ≤ s.size := by
  have h : (Lib.trimLeftS s.data.toList [32, 9]).length ≤ s.data.toList.length := (List.dropWhile_sublist _).length_le
  rw [size_eq] at h
  exact h
theorem trimR_size (s : ByteArray) : (trimR s).size ≤ s.size := by
  have h : (Lib.trimRightS s.data.toList [32, 9]).length ≤ s.data.toList.length := by
    unfold Lib.trimRightS
    rw [List.length_reverse]
    refine Nat.le_trans (List.dropWhile_sublist _).length_le ?_
    rw [List.length_reverse]
    exact Nat.le_refl _
  rw [size_eq] at h
  exact h
theorem trim_le_trimL (s : ByteArray) : (trim s).size ≤ (trimL s).size := by
  rw [← trim_comm]
  exact trimR_size _
theorem lower_size (s : ByteArray) : (lower s).size = s.size := by
  rw [← size_eq, ← size_eq]
  simp [lower]

/-- Names and values of fields (layer 6). -/
def isName (s : ByteArray) : Bool := decide (s.size ≤ 128) && isTok s
def isValue (s : ByteArray) : Bool := decide (s.size ≤ 8192) && (isFld s && decide (trim s = s))

/-- ParseLine: name, value, place, error. -/
def parseLine (s : ByteArray) : ByteArray × ByteArray × Int × Int :=
  if 0 < s.size ∧ blank (bt s 0) = true then ((⟨#[]⟩ : ByteArray), (⟨#[]⟩ : ByteArray), 0, 63)
  else if place s 58 = s.size then ((⟨#[]⟩ : ByteArray), (⟨#[]⟩ : ByteArray), s.size, 62)
  else if place s 58 = 0 then ((⟨#[]⟩ : ByteArray), (⟨#[]⟩ : ByteArray), 0, 60)
  else if scan (fun j => decide (j < 128) && sign (bt s j)) 0 (place s 58) < place s 58 then ((⟨#[]⟩ : ByteArray), (⟨#[]⟩ : ByteArray), scan (fun j => decide (j < 128) && sign (bt s j)) 0 (place s 58), 60)
  else if scan (fun j => inside (bt s j)) (place s 58 + 1) (s.size - (place s 58 + 1)) < s.size then ((⟨#[]⟩ : ByteArray), (⟨#[]⟩ : ByteArray), scan (fun j => inside (bt s j)) (place s 58 + 1) (s.size - (place s 58 + 1)), 61)
  else if 8192 < (trim (s.extract (place s 58 + 1) s.size)).size then
    ((⟨#[]⟩ : ByteArray), (⟨#[]⟩ : ByteArray), place s 58 + 1 + ((s.extract (place s 58 + 1) s.size).size - (trimL (s.extract (place s 58 + 1) s.size)).size) + 8192, 61)
  else (s.extract 0 (place s 58), trim (s.extract (place s 58 + 1) s.size), 0, 0)
section
variable {s : ByteArray}
theorem pl_blank (h : 0 < s.size) (hb : blank (bt s 0) = true) : parseLine s = ((⟨#[]⟩ : ByteArray), (⟨#[]⟩ : ByteArray), 0, 63) := by
  unfold parseLine; rw [if_pos ⟨h, hb⟩]
theorem pl_nocolon (h : ¬ (0 < s.size ∧ blank (bt s 0) = true)) (hc : place s 58 = s.size) : parseLine s = ((⟨#[]⟩ : ByteArray), (⟨#[]⟩ : ByteArray), (s.size : Int), 62) := by
  unfold parseLine; rw [if_neg h, if_pos hc]
theorem pl_zero (h : ¬ (0 < s.size ∧ blank (bt s 0) = true)) (hs : 0 < s.size) (hc : place s 58 = 0) : parseLine s = ((⟨#[]⟩ : ByteArray), (⟨#[]⟩ : ByteArray), 0, 60) := by
  unfold parseLine; rw [if_neg h, if_neg (by omega), if_pos hc]
variable {k : Nat}
theorem pl_name (h : ¬ (0 < s.size ∧ blank (bt s 0) = true)) (hk : k < s.size) (hc : place s 58 = k) {i : Nat} (hi : i < k) (hgood : Good (fun j => decide (j < 128) && sign (bt s j)) 0 i) (hbad : (decide (i < 128) && sign (bt s i)) = false) :
    parseLine s = ((⟨#[]⟩ : ByteArray), (⟨#[]⟩ : ByteArray), (i : Int), 60) := by
  have e : scan (fun j => decide (j < 128) && sign (bt s j)) 0 k = i := scan_stop hgood (by omega) (by omega) hbad
  unfold parseLine; rw [if_neg h, hc, if_neg (by omega), if_neg (by omega), e, if_pos hi]
variable (h : ¬ (0 < s.size ∧ blank (bt s 0) = true)) (hk : k < s.size) (h0 : 0 < k) (hc : place s 58 = k) (hgood : Good (fun j => decide (j < 128) && sign (bt s j)) 0 k)
include h hk h0 hc hgood
theorem pl_value {i : Nat} (hi : k + 1 ≤ i) (his : i < s.size) (hin : Good (fun j => inside (bt s j)) (k + 1) i) (hbad : inside (bt s i) = false) : parseLine s = ((⟨#[]⟩ : ByteArray), (⟨#[]⟩ : ByteArray), (i : Int), 61) := by
  have e : scan (fun j => decide (j < 128) && sign (bt s j)) 0 k = k := by have := scan_all (a := 0) (n := k) (by rwa [Nat.zero_add]); rwa [Nat.zero_add] at this
  have e2 : scan (fun j => inside (bt s j)) (k + 1) (s.size - (k + 1)) = i := scan_stop hin (by omega) (by omega) hbad
  unfold parseLine; rw [if_neg h, hc, if_neg (by omega), if_neg (by omega), e, if_neg (by omega), e2, if_pos his]
variable (hin : Good (fun j => inside (bt s j)) (k + 1) s.size)
include hin
theorem pl_long (hl : 8192 < (trim (s.extract (k + 1) s.size)).size) : parseLine s = ((⟨#[]⟩ : ByteArray), (⟨#[]⟩ : ByteArray), (k : Int) + 1 + (((s.extract (k + 1) s.size).size : Int) - ((trimL (s.extract (k + 1) s.size)).size : Int)) + 8192, 61) := by
  have e : scan (fun j => decide (j < 128) && sign (bt s j)) 0 k = k := by have := scan_all (a := 0) (n := k) (by rwa [Nat.zero_add]); rwa [Nat.zero_add] at this
  have e2 : scan (fun j => inside (bt s j)) (k + 1) (s.size - (k + 1)) = s.size := scan_eq (by omega) (by omega) hin (by omega)
  unfold parseLine; rw [if_neg h, hc, if_neg (by omega), if_neg (by omega), e, if_neg (by omega), e2, if_neg (by omega), if_pos hl]
theorem pl_ok (hl : ¬ 8192 < (trim (s.extract (k + 1) s.size)).size) : parseLine s = (s.extract 0 k, trim (s.extract (k + 1) s.size), 0, 0) := by
  have e : scan (fun j => decide (j < 128) && sign (bt s j)) 0 k = k := by have := scan_all (a := 0) (n := k) (by rwa [Nat.zero_add]); rwa [Nat.zero_add] at this
  have e2 : scan (fun j => inside (bt s j)) (k + 1) (s.size - (k + 1)) = s.size := scan_eq (by omega) (by omega) hin (by omega)
  unfold parseLine; rw [if_neg h, hc, if_neg (by omega), if_neg (by omega), e, if_neg (by omega), e2, if_neg (by omega), if_neg hl]
end
end Go.Proofs.YtdipogmlpmkgcaaGreatDoor
