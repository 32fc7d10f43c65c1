/-
  Plain words on what fields say: decimal numbers, lists, tokens, lengths, codings, framing, hosts (layer 6).
-/
import Derived.Test.YtkhgnfofinpofaaEl
namespace Go.Proofs.Ytkhgnfofinpofaa

/-- What a digit says, to base 16; -1: none. -/
def digV (c : Int) : Int := if 48 ≤ c ∧ c ≤ 57 then c - 48 else if 97 ≤ c ∧ c ≤ 102 then c - 87 else if 65 ≤ c ∧ c ≤ 70 then c - 55 else -1
def hexDigits : ByteArray := ⟨#[48, 49, 50, 51, 52, 53, 54, 55, 56, 57, 97, 98, 99, 100, 101, 102]⟩
theorem digV_range (c : Int) : -1 ≤ digV c ∧ digV c < 16 := by
  unfold digV
  split
  · omega
  · split
    · omega
    · split <;> omega
theorem digV_dec {c : Int} : (0 ≤ digV c ∧ digV c < 10) ↔ (48 ≤ c ∧ c ≤ 57) := by
  unfold digV
  split
  · omega
  · split
    · omega
    · split <;> omega
theorem digV_val {c : Int} (h : 48 ≤ c ∧ c ≤ 57) : digV c = c - 48 := by
  unfold digV
  rw [if_pos h]
theorem digV_find (c : Int) (h0 : 0 ≤ c) (h1 : c < 256) : findB hexDigits ((lowB (UInt8.ofNat c.toNat)).toNat : Int) = digV c := by
  obtain ⟨n, rfl⟩ := Int.eq_ofNat_of_zero_le h0
  have key : ∀ n : Nat, n < 256 → findB hexDigits ((lowB (UInt8.ofNat n)).toNat : Int) = digV n := by decide +kernel
  exact key n (by omega)
theorem lower_bt (s : ByteArray) {i : Nat} (h : i < s.size) : bt (lower s) i = ((lowB (UInt8.ofNat (bt s i).toNat)).toNat : Int) := by
  have h' : i < s.data.toList.length := by rw [size_eq]; exact h
  unfold bt lower
  simp only [List.getD_eq_getElem?_getD, List.getElem?_map, List.getElem?_eq_getElem h', Option.map_some, Option.getD_some, Int.toNat_natCast, UInt8.ofNat_toNat]
/-- The digit at a place, as the program asks for it. -/
theorem digV_at (s : ByteArray) {i : Nat} (h : i < s.size) : findB hexDigits (bt (lower (s.extract i (i + 1))) 0) = digV (bt s i) ∧ 0 < (lower (s.extract i (i + 1))).size := by
  have hz := ext_size s (a := i) (b := i + 1) (by omega) (by omega)
  have hb : bt (s.extract i (i + 1)) 0 = bt s i := ext_bt s (j := 0) (by omega)
  rw [lower_bt _ (by omega), hb, digV_find _ (bt_nonneg s i) (bt_lt s i), lower_size, hz]
  exact ⟨rfl, by omega⟩
def digOk (base : Int) (c : UInt8) : Bool := decide (0 ≤ digV (c.toNat : Int)) && decide (digV (c.toNat : Int) < base)
def numV (base : Int) (l : List UInt8) : Int := l.foldl (fun n c => n * base + digV (c.toNat : Int)) 0
theorem numV_nil (b : Int) : numV b [] = 0 := rfl
theorem numV_snoc (b : Int) (l : List UInt8) (c : UInt8) : numV b (l ++ [c]) = numV b l * b + digV (c.toNat : Int) := by simp [numV]
theorem digOk_iff {b : Int} {c : UInt8} : digOk b c = true ↔ (0 ≤ digV (c.toNat : Int) ∧ digV (c.toNat : Int) < b) := by simp [digOk]
theorem snoc_ind {α : Type} {P : List α → Prop} (h0 : P []) (h1 : ∀ l c, P l → P (l ++ [c])) (l : List α) : P l := by
  have : ∀ m : List α, P m.reverse := by
    intro m
    induction m with
    | nil => exact h0
    | cons c m ih => rw [List.reverse_cons]; exact h1 _ _ ih
  have h := this l.reverse
  rwa [List.reverse_reverse] at h
theorem numV_nonneg {b : Int} (hb : 0 ≤ b) : ∀ l : List UInt8, l.all (digOk b) = true → 0 ≤ numV b l := by
  refine snoc_ind (fun _ => Int.le_refl _) fun l c ih h => ?_
  rw [List.all_append] at h
  simp only [List.all_cons, List.all_nil, Bool.and_true, Bool.and_eq_true] at h
  have h1 := ih h.1
  have h2 := (digOk_iff.1 h.2).1
  have h3 := Int.mul_nonneg h1 hb
  rw [numV_snoc]
  omega
theorem numV_mono {b : Int} (hb : 1 ≤ b) {l : List UInt8} {c : UInt8} (h : 0 ≤ numV b l) (hc : 0 ≤ digV (c.toNat : Int)) : numV b l ≤ numV b (l ++ [c]) := by
  rw [numV_snoc]
  have : numV b l * 1 ≤ numV b l * b := Int.mul_le_mul_of_nonneg_left hb h
  omega
/-- What digits to a base say: the number, the error. -/
def numR (s : ByteArray) (most base : Int) : Int × Int :=
  if s.size = 0 ∨ s.data.toList.all (digOk base) = false then (0, 11) else if most < numV base s.data.toList then (0, 12) else (numV base s.data.toList, 0)
/-- The first k bytes are digits. -/
def Digs (base : Int) (s : ByteArray) (k : Nat) : Prop := (s.data.toList.take k).all (digOk base) = true
theorem take_at (s : ByteArray) {i : Nat} (h : i < s.size) : ∃ c : UInt8, s.data.toList.take (i + 1) = s.data.toList.take i ++ [c] ∧ (c.toNat : Int) = bt s i := by
  have h' : i < s.data.toList.length := by rw [size_eq]; exact h
  refine ⟨s.data.toList[i], List.take_succ_eq_append_getElem h', ?_⟩
  unfold bt
  rw [List.getD_eq_getElem?_getD, List.getElem?_eq_getElem h']
  rfl
theorem take_full (s : ByteArray) : s.data.toList.take s.size = s.data.toList := List.take_of_length_le (by rw [size_eq]; exact Nat.le_refl _)
section
variable {s : ByteArray} {base : Int}
theorem Digs.zero : Digs base s 0 := by unfold Digs; rw [List.take_zero]; rfl
theorem Digs.succ {k : Nat} (h : Digs base s k) (hk : k < s.size) (h0 : 0 ≤ digV (bt s k)) (h1 : digV (bt s k) < base) : Digs base s (k + 1) := by
  obtain ⟨c, hc, he⟩ := take_at s hk
  unfold Digs at *
  rw [hc, List.all_append, h]
  simp [digOk_iff, he, h0, h1]
theorem numV_at {k : Nat} (hk : k < s.size) : numV base (s.data.toList.take (k + 1)) = numV base (s.data.toList.take k) * base + digV (bt s k) := by
  obtain ⟨c, hc, he⟩ := take_at s hk
  rw [hc, numV_snoc, he]
theorem Digs.pos {k : Nat} (h : Digs base s k) (hb : 0 ≤ base) : 0 ≤ numV base (s.data.toList.take k) := numV_nonneg hb _ h
variable {most : Int}
theorem numR_empty (h : s.size = 0) : numR s most base = (0, 11) := by unfold numR; rw [if_pos (.inl h)]
theorem numR_bad {k : Nat} (hk : k < s.size) (h : digV (bt s k) < 0 ∨ base ≤ digV (bt s k)) : numR s most base = (0, 11) := by
  have hl : k < s.data.toList.length := by rw [size_eq]; exact hk
  have : s.data.toList.all (digOk base) = false := by
    rw [List.all_eq_false]
    refine ⟨s.data.toList[k], List.getElem_mem hl, ?_⟩
    rw [digOk_iff]
    have e : ((s.data.toList[k].toNat : Nat) : Int) = bt s k := by
      unfold bt
      rw [List.getD_eq_getElem?_getD, List.getElem?_eq_getElem hl]
      rfl
    rw [e]
    omega
  unfold numR
  rw [if_pos (.inr this)]
theorem numR_big (hz : 0 < s.size) (h : Digs base s s.size) (hb : most < numV base (s.data.toList.take s.size)) : numR s most base = (0, 12) := by
  unfold Digs at h
  rw [take_full] at h hb
  unfold numR
  rw [if_neg (by rintro (h1 | h1); · omega
                 · rw [h] at h1; cases h1), if_pos hb]
theorem numR_ok (hz : 0 < s.size) (h : Digs base s s.size) (hb : ¬ most < numV base (s.data.toList.take s.size)) : numR s most base = (numV base (s.data.toList.take s.size), 0) := by
  unfold Digs at h
  rw [take_full] at *
  unfold numR
  rw [if_neg (by rintro (h1 | h1); · omega
                 · rw [h] at h1; cases h1), if_neg hb]
end
/-- A decimal number of at most 2^40; -1: none. -/
def decV (s : ByteArray) : Int := if (numR s 1099511627776 10).2 = 0 then (numR s 1099511627776 10).1 else -1
theorem numR_range (s : ByteArray) (most : Int) (h : 0 ≤ most) : 0 ≤ (numR s most 10).1 ∧ (numR s most 10).1 ≤ most ∧ 0 ≤ (numR s most 10).2 ∧ (numR s most 10).2 ≤ 12 := by
  unfold numR
  split
  · simp; omega
  · split
    · simp; omega
    · rename_i h1 h2
      have h3 : s.data.toList.all (digOk 10) = true := by
        cases e : s.data.toList.all (digOk 10)
        · exact absurd (.inr e) h1
        · rfl
      have := numV_nonneg (b := 10) (by omega) _ h3
      simp only
      omega
theorem decV_ok {s : ByteArray} (h : (numR s 1099511627776 10).2 = 0) : decV s = (numR s 1099511627776 10).1 ∧ 0 ≤ decV s := by
  have := numR_range s 1099511627776 (by omega)
  have e : decV s = (numR s 1099511627776 10).1 := by unfold decV; rw [if_pos h]
  exact ⟨e, by rw [e]; omega⟩
theorem decV_no {s : ByteArray} (h : ¬ (numR s 1099511627776 10).2 = 0) : decV s = -1 := by unfold decV; rw [if_neg h]
theorem decV_range (s : ByteArray) : -1 ≤ decV s ∧ decV s ≤ 1099511627776 := by
  have := numR_range s 1099511627776 (by omega)
  unfold decV
  split <;> omega

/-- The elements of a name's values, and the error. -/
def listR (vs : List ByteArray) : List ByteArray × Int := match elemsAll vs with
  | none => ([], 14)
  | some x => (x, 0)
theorem listR_none {vs : List ByteArray} (h : elemsAll vs = none) : listR vs = ([], 14) := by unfold listR; rw [h]
theorem listR_some {vs x : List ByteArray} (h : elemsAll vs = some x) : listR vs = (x, 0) := by unfold listR; rw [h]
theorem listR_err (vs : List ByteArray) : ((listR vs).2 = 0 ∧ elemsAll vs = some (listR vs).1) ∨ (listR vs = ([], 14) ∧ elemsAll vs = none) := by
  cases h : elemsAll vs with
  | none => exact .inr ⟨listR_none h, rfl⟩
  | some x => exact .inl ⟨by rw [listR_some h], by rw [listR_some h]⟩
/-- The elements as tokens with small letters. -/
def tokR (r : List ByteArray × Int) : List ByteArray × Int := if r.2 = 0 then (if r.1.all isTok = true then (r.1.map lower, 0) else ([], 10)) else ([], r.2)
theorem tokR_err {r : List ByteArray × Int} (h : ¬ r.2 = 0) : tokR r = ([], r.2) := by unfold tokR; rw [if_neg h]
theorem tokR_bad {x : List ByteArray} {k : Nat} {s : ByteArray} (hk : x[k]? = some s) (hs : isTok s = false) : tokR (x, 0) = ([], 10) := by
  unfold tokR
  rw [if_pos rfl, if_neg]
  intro h
  have := List.all_eq_true.1 h s (List.mem_of_getElem? hk)
  rw [hs] at this
  cases this
theorem tokR_ok {x : List ByteArray} (h : ∀ (k : Nat) s, x[k]? = some s → isTok s = true) : tokR (x, 0) = (x.map lower, 0) := by
  unfold tokR
  rw [if_pos rfl, if_pos]
  refine List.all_eq_true.2 fun s hs => ?_
  obtain ⟨k, hk, rfl⟩ := List.getElem_of_mem hs
  exact h k _ (List.getElem?_eq_getElem hk)
def isIn (l : List ByteArray) (s : ByteArray) : Bool := l.any fun x => decide (x = s)
theorem isIn_iff {l : List ByteArray} {s : ByteArray} : isIn l s = true ↔ s ∈ l := by
  unfold isIn
  rw [List.any_eq_true]
  constructor
  · rintro ⟨x, hx, h⟩
    have := of_decide_eq_true h
    rwa [this] at hx
  · intro h
    exact ⟨s, h, decide_eq_true rfl⟩
def hasR (r : List ByteArray × Int) (token : ByteArray) : Bool := decide (r.2 = 0) && isIn r.1 (lower token)
/-- What the content lengths say. -/
def lenR : List ByteArray → Int × Bool × Int
  | [] => (0, false, 66)
  | x :: xs => if (x :: xs).all (fun y => decide (0 ≤ decV y) && decide (decV y = decV x)) = true then (decV x, true, 0) else (0, false, 66)
theorem lenR_bad {x : ByteArray} {xs : List ByteArray} {k : Nat} {y : ByteArray} (hk : (x :: xs)[k]? = some y) (hy : decV y < 0 ∨ decV y ≠ decV x) : lenR (x :: xs) = (0, false, 66) := by
  show (if _ then _ else _) = _
  rw [if_neg]
  intro h
  have := List.all_eq_true.1 h y (List.mem_of_getElem? hk)
  simp at this
  omega
theorem lenR_ok {x : ByteArray} {xs : List ByteArray} (h : ∀ (k : Nat) y, (x :: xs)[k]? = some y → 0 ≤ decV y ∧ decV y = decV x) : lenR (x :: xs) = (decV x, true, 0) := by
  show (if _ then _ else _) = _
  rw [if_pos]
  refine List.all_eq_true.2 fun s hs => ?_
  obtain ⟨k, hk, rfl⟩ := List.getElem_of_mem hs
  have := h k _ (List.getElem?_eq_getElem hk)
  rw [decide_eq_true this.1, decide_eq_true this.2]
  rfl
def lengthR (vs : List ByteArray) : Int × Bool × Int := if vs = [] then (0, false, 0) else if (listR vs).2 = 0 then lenR (listR vs).1 else (0, false, 66)
theorem lengthR_nil : lengthR [] = (0, false, 0) := rfl
theorem lengthR_err {vs : List ByteArray} (h : vs ≠ []) (he : ¬ (listR vs).2 = 0) : lengthR vs = (0, false, 66) := by unfold lengthR; rw [if_neg h, if_neg he]
theorem lengthR_ok {vs : List ByteArray} (h : vs ≠ []) (he : (listR vs).2 = 0) : lengthR vs = lenR (listR vs).1 := by unfold lengthR; rw [if_neg h, if_pos he]
/-- What the transfer codings say. -/
def codR (vs : List ByteArray) : List ByteArray × Bool × Int := if vs = [] then ([], false, 0) else if (tokR (listR vs)).2 = 0 then ((tokR (listR vs)).1, true, 0) else ([], false, 67)
theorem codR_nil : codR [] = ([], false, 0) := rfl
theorem codR_err {vs : List ByteArray} (h : vs ≠ []) (he : ¬ (tokR (listR vs)).2 = 0) : codR vs = ([], false, 67) := by unfold codR; rw [if_neg h, if_neg he]
theorem codR_ok {vs : List ByteArray} (h : vs ≠ []) (he : (tokR (listR vs)).2 = 0) : codR vs = ((tokR (listR vs)).1, true, 0) := by unfold codR; rw [if_neg h, if_pos he]
def chunked : ByteArray := ⟨#[99, 104, 117, 110, 107, 101, 100]⟩
/-- How a body is framed: the kind, the length, the error. -/
def framR (c : List ByteArray × Bool × Int) (n : Int × Bool × Int) (old : Bool) : Int × Int × Int :=
  if ¬ c.2.2 = 0 ∨ (c.2.1 = true ∧ (old = true ∨ c.1 ≠ [chunked])) then (0, 0, 67) else if ¬ n.2.2 = 0 then (0, 0, n.2.2) else if c.2.1 = true ∧ n.2.1 = true then (0, 0, 68) else if c.2.1 = true then (2, 0, 0) else if n.2.1 = true then (1, n.1, 0) else (0, 0, 0)
def closeT : ByteArray := ⟨#[99, 108, 111, 115, 101]⟩
def keepT : ByteArray := ⟨#[107, 101, 101, 112, 45, 97, 108, 105, 118, 101]⟩
def persR (r : List ByteArray × Int) (old : Bool) : Bool := if ¬ r.2 = 0 ∨ isIn r.1 closeT = true then false else !old || isIn r.1 keepT
def hostBad : ByteArray := ⟨#[34, 35, 47, 60, 62, 63, 64, 92]⟩
def hostB (c : Int) : Bool := decide (33 ≤ c) && decide (c ≤ 126) && decide (findB hostBad c < 0)
def hostR (vs : List ByteArray) (old : Bool) : ByteArray × Bool × Int := match vs with
  | [] => if old = true then (⟨#[]⟩, false, 0) else (⟨#[]⟩, false, 69)
  | [v] => if allB hostB v = true then (v, true, 0) else (⟨#[]⟩, false, 69)
  | _ => (⟨#[]⟩, false, 69)
/-- Names that end at the next hop. -/
def hopEnds : List ByteArray := [⟨#[99, 111, 110, 110, 101, 99, 116, 105, 111, 110]⟩, ⟨#[107, 101, 101, 112, 45, 97, 108, 105, 118, 101]⟩, ⟨#[112, 114, 111, 120, 121, 45, 99, 111, 110, 110, 101, 99, 116, 105, 111, 110]⟩, ⟨#[116, 101]⟩, ⟨#[116, 114, 97, 105, 108, 101, 114]⟩, ⟨#[116, 114, 97, 110, 115, 102, 101, 114, 45, 101, 110, 99, 111, 100, 105, 110, 103]⟩, ⟨#[117, 112, 103, 114, 97, 100, 101]⟩]
def onwR (l : List (ByteArray × ByteArray)) (toks : List ByteArray) : List (ByteArray × ByteArray) := l.filter fun f => !isIn (hopEnds ++ toks) (lower f.1)
end Go.Proofs.Ytkhgnfofinpofaa
