/-
  Where a reference leads to: plain words.
-/
import Derived.Test.YtjlnbjlhlglneaaDoorTgN
import Derived.Test.YtjlnbjlhlglneaaDoorTgT
import Derived.Lib.LastIndexByte
namespace Go.Proofs.YtjlnbjlhlglneaaDoor

theorem get_byte {s : ByteArray} {k : Nat} (h : k < s.size) : ((s.data[k]!).toNat : Int) = bt s k := by
  have hk : k < s.data.size := h
  unfold bt
  rw [getElem!_pos s.data k hk, List.getD_eq_getElem?_getD, Array.getElem?_toList, Array.getElem?_eq_getElem hk]
  rfl
theorem last_slash (s : ByteArray) : ∀ k : Nat, k ≤ s.size → Lib.lastIdx s 47 k + 1 = (lastSlash s k : Int)
  | 0, _ => rfl
  | k + 1, h => by
    unfold Lib.lastIdx lastSlash
    rw [get_byte (by omega)]
    by_cases e : bt s k = 47
    · rw [if_pos e]
      simp [e]
    · rw [if_neg e]
      have := last_slash s k (by omega)
      simp [e, this]
theorem last_index (s : ByteArray) : Lib.lastIndexByte s 47 + 1 = (lastSlash s s.size : Int) := last_slash s s.size (Nat.le_refl _)
theorem slash_le (s : ByteArray) : ∀ n : Nat, lastSlash s n ≤ n
  | 0 => Nat.le_refl _
  | n + 1 => by
    unfold lastSlash
    split
    · exact Nat.le_refl _
    · exact Nat.le_succ_of_le (slash_le s n)
theorem slash_at (s : ByteArray) : ∀ n : Nat, lastSlash s n = 0 ∨ bt s (lastSlash s n - 1) = 47
  | 0 => .inl rfl
  | n + 1 => by
    unfold lastSlash
    split
    · rename_i h
      right
      rw [Nat.add_sub_cancel]
      exact h
    · exact slash_at s n
theorem slash_pos (s : ByteArray) (h : bt s 0 = 47) : ∀ n : Nat, 0 < n → 0 < lastSlash s n
  | 0, h0 => absurd h0 (Nat.lt_irrefl _)
  | n + 1, _ => by
    unfold lastSlash
    split
    · omega
    · rename_i e
      rcases Nat.eq_zero_or_pos n with h0 | h0
      · subst h0
        exact absurd h e
      · exact slash_pos s h n h0

/-! A text behind another. -/
theorem add_size (a b : ByteArray) : (a ++ b).size = a.size + b.size := by simp
theorem add_data' (a b : ByteArray) : (a ++ b).data.toList = a.data.toList ++ b.data.toList := by simp
theorem bt_left {a b : ByteArray} {i : Nat} (h : i < a.size) : bt (a ++ b) i = bt a i := by
  unfold bt
  rw [add_data', List.getD_eq_getElem?_getD, List.getD_eq_getElem?_getD, List.getElem?_append_left (by rw [size_eq]; exact h)]
theorem bt_right {a b : ByteArray} {i : Nat} : bt (a ++ b) (a.size + i) = bt b i := by
  unfold bt
  rw [add_data', List.getD_eq_getElem?_getD, List.getD_eq_getElem?_getD, List.getElem?_append_right (by rw [size_eq]; omega), size_eq, Nat.add_sub_cancel_left]
theorem tri_right {a b : ByteArray} {i : Nat} : tri (a ++ b) (a.size + i) = tri b i := by
  unfold tri
  rw [add_size, bt_right, show a.size + i + 1 = a.size + (i + 1) by omega, show a.size + i + 2 = a.size + (i + 2) by omega, bt_right, bt_right]
  congr 1
  apply decide_eq_decide.2
  omega
theorem stop_right {P : Int → Bool} {a b : ByteArray} : ∀ (n i : Nat), b.size - i ≤ n → stopF P (a ++ b) (a.size + i) = a.size + stopF P b i
  | n, i, hn => by
    by_cases hi : i < b.size
    · rw [stopF_step (show a.size + i < (a ++ b).size by rw [add_size]; omega), stopF_step hi, tri_right, bt_right]
      match n, hn with
      | 0, hn => omega
      | n + 1, hn =>
        split
        · exact stop_right n (i + 3) (by omega)
        · split
          · exact stop_right n (i + 1) (by omega)
          · rfl
    · rw [stopF_end (by rw [add_size]; omega), stopF_end (by omega)]
theorem tri_slash {s : ByteArray} {i k : Nat} (h : tri s i = true) (hi : i < k) (hk : bt s (k - 1) = 47) : i + 3 ≤ k := by
  obtain ⟨_, h1, h2, h3⟩ := tri_iff.1 h
  have hx : digV 47 < 0 := by decide
  by_cases e0 : k = i + 1
  · rw [e0, Nat.add_sub_cancel] at hk
    omega
  · by_cases e1 : k = i + 2
    · rw [e1, show i + 2 - 1 = i + 1 by omega] at hk
      rw [hk] at h2
      omega
    · omega
/-- Up to a slash all is read, and what stands behind is read as it is. -/
theorem stop_join {P : Int → Bool} (h37 : P 37 = false) {s b : ByteArray} {k : Nat} (hk : k ≤ s.size) (hs : bt s (k - 1) = 47) (hall : stopF P s 0 = s.size) : ∀ (n i : Nat), k - i ≤ n → i ≤ k → stopF P s i = s.size → stopF P (s.extract 0 k ++ b) i = k + stopF P b 0
  | n, i, hn, hi, hst => by
    have hz : (s.extract 0 k).size = k := by rw [ext_size s (by omega) hk]; omega
    by_cases e : i = k
    · subst e
      have := stop_right (P := P) (a := s.extract 0 i) (b := b) b.size 0 (by omega)
      rw [hz, Nat.add_zero] at this
      exact this
    · have hb : ∀ j, j < k → bt (s.extract 0 k ++ b) j = bt s j := fun j hj => by
        rw [bt_left (by omega)]
        have := ext_bt s (a := 0) (b := k) (j := j) (by omega)
        rwa [Nat.zero_add] at this
      have hx : i < (s.extract 0 k ++ b).size := by rw [add_size]; omega
      match n, hn with
      | 0, hn => omega
      | n + 1, hn =>
        cases ht : tri s i
        · have hp : P (bt s i) = true := by
            cases hp : P (bt s i)
            · rw [stopF_stop (by omega) ht hp] at hst
              omega
            · rfl
          have h2 : tri (s.extract 0 k ++ b) i = false := tri_other (by
            rw [hb i (by omega)]
            intro e37
            rw [e37, h37] at hp
            cases hp)
          rw [stopF_on hx h2 (by rw [hb i (by omega)]; exact hp)]
          rw [stopF_on (by omega) ht hp] at hst
          exact stop_join h37 hk hs hall n (i + 1) (by omega) (by omega) hst
        · have h3 := tri_slash ht (by omega) hs
          obtain ⟨g1, g2, g3, g4⟩ := tri_iff.1 ht
          have h2 : tri (s.extract 0 k ++ b) i = true := tri_iff.2 ⟨by rw [add_size]; omega, by rw [hb i (by omega)]; exact g2, by rw [hb (i + 1) (by omega)]; exact g3, by rw [hb (i + 2) (by omega)]; exact g4⟩
          rw [stopF_tri h2]
          rw [stopF_tri ht] at hst
          exact stop_join h37 hk hs hall n (i + 3) (by omega) h3 hst
theorem path_37 : pathSign 37 = false := by decide +kernel
theorem path_parts {s : ByteArray} (h : isPathB s = true) : 0 < s.size ∧ bt s 0 = 47 ∧ pathStop s = s.size := by
  unfold isPathB at h
  simp only [Bool.and_eq_true, decide_eq_true_eq] at h
  exact h
theorem path_join {s b : ByteArray} (h : isPathB s = true) : pathStop (s.extract 0 (lastSlash s s.size) ++ b) = lastSlash s s.size + pathStop b := by
  obtain ⟨h0, h1, h2⟩ := path_parts h
  have hk := slash_le s s.size
  have hp := slash_pos s h1 s.size h0
  rcases slash_at s s.size with he | he
  · omega
  · exact stop_join path_37 hk he h2 (lastSlash s s.size) 0 (by omega) (by omega) h2
theorem join_bad {s b : ByteArray} (h : isPathB s = true) (hb : ¬ pathStop b = b.size) : isPathB (s.extract 0 (lastSlash s s.size) ++ b) = false := by
  have hk := slash_le s s.size
  have hj := path_join (b := b) h
  have hz : (s.extract 0 (lastSlash s s.size) ++ b).size = lastSlash s s.size + b.size := by rw [add_size, ext_size s (by omega) hk]; omega
  unfold isPathB
  rw [hj, hz, decide_eq_false (show ¬ lastSlash s s.size + pathStop b = lastSlash s s.size + b.size by omega)]
  simp
theorem join_good {s b : ByteArray} (h : isPathB s = true) (hb : pathStop b = b.size) : isPathB (s.extract 0 (lastSlash s s.size) ++ b) = true := by
  obtain ⟨h0, h1, _⟩ := path_parts h
  have hk := slash_le s s.size
  have hp := slash_pos s h1 s.size h0
  have hj := path_join (b := b) h
  have hz0 := ext_size s (a := 0) (b := lastSlash s s.size) (by omega) hk
  have hz : (s.extract 0 (lastSlash s s.size) ++ b).size = lastSlash s s.size + b.size := by rw [add_size]; omega
  have hb0 : bt (s.extract 0 (lastSlash s s.size) ++ b) 0 = 47 := by
    rw [bt_left (by omega)]
    have := ext_bt s (a := 0) (b := lastSlash s s.size) (j := 0) (by omega)
    rw [this]
    exact h1
  unfold isPathB
  rw [hj, hz, hb, hb0, decide_eq_true (show 0 < lastSlash s s.size + b.size by omega)]
  simp
theorem normR_bad {s : ByteArray} (h : isPathB s = false) : normR s = (⟨#[]⟩, 53) := by unfold normR; rw [if_neg (by rw [h]; simp)]
theorem sign_bad {s : ByteArray} (h : ¬ pathStop s = s.size) : isPathB s = false := by
  unfold isPathB
  rw [decide_eq_false h]
  simp
/-- What the reference makes of a reference. -/
theorem resR_ref (path ref : ByteArray) : resR path ref = if isPathB path = true then (if ref.size = 0 then normR path else if bt ref 0 = 47 then normR ref else normR (path.extract 0 (lastSlash path path.size) ++ ref)) else (⟨#[]⟩, 53) := by
  unfold resR
  by_cases hp : isPathB path = true
  · by_cases hr : pathStop ref = ref.size
    · rw [if_pos ⟨hp, hr⟩, if_pos hp]
    · rw [if_neg (fun h => hr h.2), if_pos hp]
      have hz : ¬ ref.size = 0 := fun h => hr (by
        have := stopF_le pathSign ref
        show stopF pathSign ref 0 = _
        omega)
      rw [if_neg hz]
      by_cases h47 : bt ref 0 = 47
      · rw [if_pos h47, normR_bad (sign_bad hr)]
      · rw [if_neg h47, normR_bad (join_bad hp hr)]
  · rw [if_neg (fun h => hp h.1), if_neg hp]
end Go.Proofs.YtjlnbjlhlglneaaDoor
