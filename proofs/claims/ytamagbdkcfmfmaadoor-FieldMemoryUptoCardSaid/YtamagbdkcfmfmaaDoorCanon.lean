/-
  Names, values, Canon: the walks, of the program and of the reference.
-/
import Derived.Test.YtamagbdkcfmfmaaDoorRoct
import Derived.Test.YtamagbdkcfmfmaaDoorPline
import Derived.Test.YtamagbdkcfmfmaaDoorPlain2
namespace Go.Proofs.YtamagbdkcfmfmaaDoor
open Go.RowKit Go.Shelf Go.Lib

theorem leq_dec (n m : Nat) : (decide ((n : Int) ≤ (m : Int))) = decide (n ≤ m) := by
  by_cases h : n ≤ m
  · rw [decide_eq_true h, decide_eq_true (by omega)]
  · rw [decide_eq_false h, decide_eq_false (by omega)]
theorem IsName_any (s : ByteArray) (w : World) (hs : s.size ≤ maxLen) (hg : Glob w) :
    Calls Tryd.prog 20 #[.string s] w fun e w' => e = .returned (.bool (isName s)) ∧ w = w' := by
  rcases Nat.lt_or_ge 128 s.size with h | h
  · have HN := Lib.hid (show isName s = false by rw [isName, decide_eq_false (by omega)]; rfl)
    have hd : decide ((s.size : Int) ≤ 128) = false := by simp; omega
    go_enter Tryd.func20, Tryd.ntmps20
    go_wp2
    go_ret
    exact ⟨ret_bool HN.out.symm, rfl⟩
  · have HN := Lib.hid (show isName s = isTok s by rw [isName, decide_eq_true h]; rfl)
    have hd : decide ((s.size : Int) ≤ 128) = true := by simp; omega
    go_enter Tryd.func20, Tryd.ntmps20
    go_wp2_with (go_at_call 71; refine (IsToken_any s _ hs hg).mono ?_; rintro e w' ⟨rfl, rfl⟩)
    go_ret
    exact ⟨ret_bool HN.out.symm, rfl⟩
theorem rIsName_any (s : ByteArray) (w : World) (hs : s.size ≤ maxLen) :
    Calls Tryd.prog 21 #[.string s] w fun e w' => e = .returned (.bool (isName s)) ∧ w = w' := by
  have hT := rToken_any s w hs
  cases ht : isTok s
  · have HN := Lib.hid (show isName s = false by rw [isName, ht]; simp)
    rw [ht] at hT
    clear ht
    go_enter Tryd.func21, Tryd.ntmps21
    go_wp2_with (go_at_call 80; refine hT.mono ?_; rintro e w' ⟨rfl, rfl⟩)
    go_ret
    exact ⟨ret_bool HN.out.symm, rfl⟩
  · have HN := Lib.hid (show isName s = decide (s.size ≤ 128) by rw [isName, ht]; simp)
    rw [ht] at hT
    clear ht
    unfold maxLen at hs
    go_enter Tryd.func21, Tryd.ntmps21
    go_wp2_with (go_at_call 80; refine hT.mono ?_; rintro e w' ⟨rfl, rfl⟩)
    go_ret
    exact ⟨ret_bool (by rw [HN.out]; exact leq_dec s.size 128), rfl⟩

theorem IsValue_any (s : ByteArray) (w : World) (hs : s.size ≤ maxLen) :
    Calls Tryd.prog 22 #[.string s] w fun e w' => e = .returned (.bool (isValue s)) ∧ Below w.heap.size w w' := by
  rcases Nat.lt_or_ge 8192 s.size with h | h
  · have HN := Lib.hid (show isValue s = false by rw [isValue, decide_eq_false (by omega)]; rfl)
    have hd : decide ((s.size : Int) ≤ 8192) = false := by simp; omega
    go_enter Tryd.func22, Tryd.ntmps22
    go_wp2
    go_ret
    exact ⟨ret_bool HN.out.symm, Below.refl _ _⟩
  · have hd : decide ((s.size : Int) ≤ 8192) = true := by simp; omega
    have hF := IsField_any s w hs
    cases hf : isFld s
    · have HN := Lib.hid (show isValue s = false by rw [isValue, hf]; simp)
      rw [hf] at hF
      clear hf
      go_enter Tryd.func22, Tryd.ntmps22
      go_wp2_with (go_at_call 72; refine hF.mono ?_; rintro e w' ⟨rfl, rfl⟩)
      go_ret
      exact ⟨ret_bool HN.out.symm, Below.refl _ _⟩
    · have HN := Lib.hid (show isValue s = (trim s).toList.beq s.toList by rw [isValue, hf, decide_eq_true h]; simp only [Bool.true_and]; exact (eq_str _ _).symm)
      rw [hf] at hF
      clear hf
      go_enter Tryd.func22, Tryd.ntmps22
      go_wp2_with (first | (go_at_call 72; refine hF.mono ?_; rintro e w' ⟨rfl, rfl⟩) | (go_at_call 73; refine (Trim_any s _ hs).mono ?_; rintro e w1 ⟨rfl, hb⟩))
      go_ret
      exact ⟨ret_bool HN.out.symm, by assumption⟩
set_option maxRecDepth 20000 in
theorem rIsValue_any (s : ByteArray) (w : World) (hs : s.size ≤ maxLen) :
    Calls Tryd.prog 23 #[.string s] w fun e w' => e = .returned (.bool (isValue s)) ∧ w = w' := by
  have HS := Lib.hid hs
  unfold maxLen at hs
  go_enter Tryd.func23, Tryd.ntmps23
  go_wp2
  go_loop [3] (fun i => ∃ k : Nat, k ≤ s.size ∧ i = .int .i64 k ∧ AllTo inside s k) (fun i => s.size - (RowKit.intOf i).toNat)
  case atStart => exact ⟨0, by omega, rfl, AllTo.zero _ _⟩
  case round =>
    obtain ⟨k, hk, rfl, hall⟩ := hrel
    by_cases hlt : k < s.size
    · have hb := @bt_eq s k hlt
      go_wp2_with (go_at_call 78; refine (rInside_any _ _).mono ?_; rintro e w' ⟨rfl, rfl⟩)
      · have h : (!inside (bt s k)) = true := by assumption
        go_ret
        exact ⟨ret_bool (by rw [isValue, isFld, allB_false hlt (by simpa using h)]; simp), rfl⟩
      · have h : (!inside (bt s k)) = false := by assumption
        go_round
        case rel => exact ⟨k + 1, by omega, by go_num, hall.succ (by simpa using h)⟩
        case measure => simp [RowKit.intOf]; omega
    · obtain rfl : k = s.size := by omega
      have hf : isFld s = true := allB_true hall
      rcases Nat.lt_or_ge 8192 s.size with h | h
      · have HN := Lib.hid (show isValue s = false by rw [isValue, decide_eq_false (by omega)]; rfl)
        have hd : decide ((s.size : Int) ≤ 8192) = false := by simp; omega
        clear hf hall
        go_wp2
        go_ret
        exact ⟨ret_bool HN.out.symm, rfl⟩
      · have HN := Lib.hid (show isValue s = (trim s).toList.beq s.toList by rw [isValue, hf, decide_eq_true h]; simp only [Bool.true_and]; exact (eq_str _ _).symm)
        have hd : decide ((s.size : Int) ≤ 8192) = true := by simp; omega
        clear hf hall
        go_wp2_with (go_at_call 79; refine (rTrim_any s _ HS.out).mono ?_; rintro e w1 ⟨rfl, rfl⟩)
        go_ret
        exact ⟨ret_bool HN.out.symm, rfl⟩

/-! Canon -/
def begAt (t : ByteArray) (k : Nat) : Bool := decide (k = 0) || decide (bt t (k - 1) = 45)
def canonAt (t : ByteArray) (k : Nat) : UInt8 := if begAt t k = true ∧ 97 ≤ bt t k ∧ bt t k ≤ 122 then UInt8.ofNat ((t.data.toList.getD k 0).toNat - 32) else t.data.toList.getD k 0
/-- The first places by a rule, the others as they were. -/
def ruleTo (f : Nat → UInt8) (l : List UInt8) (k : Nat) : List UInt8 := (List.range l.length).map fun j => if j < k then f j else l.getD j 0
theorem ruleTo_length (f : Nat → UInt8) (l : List UInt8) (k : Nat) : (ruleTo f l k).length = l.length := by simp [ruleTo]
theorem ruleTo_get (f : Nat → UInt8) (l : List UInt8) (k j : Nat) (hj : j < l.length) : (ruleTo f l k)[j]? = some (if j < k then f j else l.getD j 0) := by
  simp [ruleTo, hj]
theorem ruleTo_zero (f : Nat → UInt8) (l : List UInt8) : ruleTo f l 0 = l := by
  apply List.ext_getElem?
  intro j
  by_cases h : j < l.length
  · rw [ruleTo_get f l 0 j h, if_neg (by omega), List.getElem?_eq_getElem h]
    simp [List.getD, h]
  · rw [List.getElem?_eq_none (by rw [ruleTo_length]; omega), List.getElem?_eq_none (by omega)]
theorem ruleTo_getD (f : Nat → UInt8) (l : List UInt8) (k j : Nat) (hj : j < l.length) : (ruleTo f l k).getD j 0 = if j < k then f j else l.getD j 0 := by
  rw [List.getD_eq_getElem?_getD, ruleTo_get f l k j hj]
  rfl
theorem ruleTo_succ (f : Nat → UInt8) (l : List UInt8) (k : Nat) (hk : k < l.length) : ruleTo f l (k + 1) = (ruleTo f l k).set k (f k) := by
  apply List.ext_getElem?
  intro j
  by_cases h : j < l.length
  · rw [ruleTo_get f l _ j h, List.getElem?_set]
    by_cases e : k = j
    · subst e
      rw [if_pos (by omega), if_pos rfl, if_pos (by rw [ruleTo_length]; exact hk)]
    · rw [if_neg e, ruleTo_get f l _ j h]
      by_cases h' : j < k
      · rw [if_pos (by omega), if_pos h']
      · rw [if_neg (by omega), if_neg h']
  · rw [List.getElem?_eq_none (by rw [ruleTo_length]; omega), List.getElem?_eq_none (by rw [List.length_set, ruleTo_length]; omega)]
theorem ruleTo_same (f : Nat → UInt8) (l : List UInt8) (k : Nat) (hk : k < l.length) (h : f k = l.getD k 0) : ruleTo f l (k + 1) = ruleTo f l k := by
  rw [ruleTo_succ f l k hk]
  apply List.ext_getElem?
  intro j
  rw [List.getElem?_set]
  by_cases e : k = j
  · subst e
    rw [if_pos rfl, if_pos (by rw [ruleTo_length]; exact hk), ruleTo_get f l k k hk, if_neg (by omega), h]
  · rw [if_neg e]
def canonOf (t : ByteArray) : ByteArray := ⟨(ruleTo (canonAt t) t.data.toList t.data.toList.length).toArray⟩
def canon (s : ByteArray) : ByteArray := canonOf (lower s)
theorem canonAt_yes {t : ByteArray} {k : Nat} (h : begAt t k = true) (h1 : 97 ≤ bt t k) (h2 : bt t k ≤ 122) : ((canonAt t k).toNat : Int) = bt t k - 32 := by
  unfold canonAt
  rw [if_pos ⟨h, h1, h2⟩, UInt8.toNat_ofNat']
  unfold bt at *
  omega
theorem canonAt_no {t : ByteArray} {k : Nat} (h : begAt t k = false ∨ bt t k < 97 ∨ 122 < bt t k) : canonAt t k = t.data.toList.getD k 0 := by
  unfold canonAt
  rw [if_neg]
  rintro ⟨h0, h1, h2⟩
  rcases h with h | h | h
  · rw [h] at h0; cases h0
  · omega
  · omega
/-- The byte ahead is a line in the new text as in the old one. -/
theorem canonAt_line (t : ByteArray) (k : Nat) : ((canonAt t k).toNat : Int) = 45 ↔ bt t k = 45 := by
  by_cases h : begAt t k = true ∧ 97 ≤ bt t k ∧ bt t k ≤ 122
  · obtain ⟨h0, h1, h2⟩ := h
    rw [canonAt_yes h0 h1 h2]
    omega
  · rw [canonAt_no (by
      cases hb : begAt t k
      · exact .inl rfl
      · refine .inr ?_
        rcases Int.lt_or_le (bt t k) 97 with h1 | h1
        · exact .inl h1
        · refine .inr ?_
          rcases Int.lt_or_le 122 (bt t k) with h2 | h2
          · exact h2
          · exact absurd ⟨hb, h1, h2⟩ h)]
    exact Iff.rfl
end Go.Proofs.YtamagbdkcfmfmaaDoor
