/-
  Parse: plain words, and the walks of the program's and the reference's.
-/
import Derived.Test.YtamagbdkcfmfmaaDoorRpline
import Derived.Test.YtamagbdkcfmfmaaDoorFl
import Derived.Lib.IndexMore
namespace Go.Proofs.YtamagbdkcfmfmaaDoor
open Go.RowKit Go.Shelf Go.Lib

/-- A line end at a place. -/
def isEnd (s : ByteArray) (j : Nat) : Bool := (decide (bt s j = 13) && decide (bt s (j + 1) = 10)) && decide (j + 1 < s.size)
def endAt (s : ByteArray) (a : Nat) : Nat := scan (fun j => !isEnd s j) a (s.size - a)
theorem endAt_cases (s : ByteArray) {a : Nat} (ha : a ≤ s.size) : (endAt s a = s.size ∧ ∀ j, a ≤ j → isEnd s j = false) ∨ (a ≤ endAt s a ∧ endAt s a + 1 < s.size ∧ isEnd s (endAt s a) = true ∧ ∀ j, a ≤ j → j < endAt s a → isEnd s j = false) := by
  obtain ⟨g1, g2, g3, g4⟩ := scan_spec (fun j => !isEnd s j) (s.size - a) a
  have out : ∀ j, s.size ≤ j + 1 → isEnd s j = false := fun j hj => by unfold isEnd; rw [decide_eq_false (show ¬ j + 1 < s.size by omega)]; simp
  by_cases e : endAt s a = s.size
  · refine .inl ⟨e, fun j hj => ?_⟩
    by_cases h : j < s.size
    · have := g3 j hj (by show j < endAt s a; omega)
      simpa using this
    · exact out j (by omega)
  · have hlt : endAt s a < s.size := by
      have : endAt s a ≤ a + (s.size - a) := g2
      omega
    have hend : isEnd s (endAt s a) = true := by
      have := g4 (by show endAt s a < _; omega)
      simp at this
      exact this
    refine .inr ⟨g1, ?_, hend, fun j h1 h2 => ?_⟩
    · rcases Nat.lt_or_ge (endAt s a + 1) s.size with h | h
      · exact h
      · rw [out _ h] at hend; cases hend
    · have := g3 j h1 h2
      simpa using this
theorem endAt_eq {s : ByteArray} {a e : Nat} (h1 : a ≤ e) (h2 : isEnd s e = true) (h3 : ∀ j, a ≤ j → j < e → isEnd s j = false) : endAt s a = e := by
  have he : e + 1 < s.size := by
    unfold isEnd at h2
    simp at h2
    exact h2.2
  exact scan_eq h1 (by omega) (fun j g1 g2 => by rw [h3 j g1 g2]; rfl) (fun _ => by rw [h2]; rfl)
theorem endAt_none {s : ByteArray} {a : Nat} (ha : a ≤ s.size) (h : ∀ j, a ≤ j → j + 1 < s.size → isEnd s j = false) : endAt s a = s.size := by
  rcases endAt_cases s ha with ⟨e, _⟩ | ⟨h1, h2, h3, _⟩
  · exact e
  · rw [h _ h1 h2] at h3; cases h3
theorem occ_end (s : ByteArray) (a i : Nat) : Lib.occAt (s.extract a s.size).data.toList [13, 10] i = isEnd s (a + i) := by
  unfold Lib.occAt
  rw [ext_all, List.drop_drop]
  generalize a + i = n
  unfold isEnd bt
  by_cases h : n + 1 < s.size
  · have hl : n + 1 < s.data.toList.length := by rw [size_eq]; exact h
    rw [List.drop_eq_getElem_cons (show n < s.data.toList.length by omega), List.drop_eq_getElem_cons hl, decide_eq_true h, List.getD_eq_getElem?_getD, List.getD_eq_getElem?_getD, List.getElem?_eq_getElem (show n < s.data.toList.length by omega), List.getElem?_eq_getElem hl]
    generalize s.data.toList[n] = x
    generalize s.data.toList[n + 1] = y
    have key : ∀ (z : UInt8) (m : Nat) (hm : m < 256), decide ((z.toNat : Int) = (m : Int)) = (UInt8.ofNat m == z) := by
      intro z m hm
      rw [Bool.eq_iff_iff]
      simp only [decide_eq_true_eq, beq_iff_eq]
      constructor
      · intro e
        apply UInt8.toNat_inj.1
        rw [UInt8.toNat_ofNat']
        omega
      · intro e
        rw [← e, UInt8.toNat_ofNat']
        omega
    have k1 := key x 13 (by omega)
    have k2 := key y 10 (by omega)
    simp only [List.isPrefixOf, Option.getD_some, Bool.and_true]
    exact (congr (congrArg _ k1) k2).symm
  · rw [decide_eq_false h, Bool.and_false]
    have hl : (s.data.toList.drop n).length ≤ 1 := by rw [List.length_drop, size_eq]; omega
    generalize s.data.toList.drop n = m at hl
    match m, hl with
    | [], _ => rfl
    | [x], _ => simp [List.isPrefixOf]
/-- What strings.Index answers of the rest of a text. -/
theorem index_end (s : ByteArray) {a : Nat} (ha : a ≤ s.size) : (endAt s a = s.size ∧ Lib.index (s.extract a s.size).data.toList [13, 10] = -1) ∨ (∃ n : Nat, endAt s a = a + n ∧ a + n + 1 < s.size ∧ Lib.index (s.extract a s.size).data.toList [13, 10] = n) := by
  have hz : (s.extract a s.size).data.toList.length = s.size - a := by rw [size_eq, ext_size s ha (Nat.le_refl _)]
  rcases endAt_cases s ha with ⟨e, h⟩ | ⟨h1, h2, h3, h4⟩
  · refine .inl ⟨e, Lib.index_none fun j _ => ?_⟩
    rw [occ_end]
    exact h _ (by omega)
  · refine .inr ⟨endAt s a - a, by omega, by omega, ?_⟩
    refine Lib.index_first (by omega) ?_ (fun j hj => ?_)
    · rw [occ_end, show a + (endAt s a - a) = endAt s a from by omega]
      exact h3
    · rw [occ_end]
      exact h4 _ (by omega) (by omega)

theorem parseLine_range (s : ByteArray) : 0 ≤ (parseLine s).2.2.1 ∧ (parseLine s).2.2.1 ≤ s.size := by
  unfold parseLine
  have h1 := place_le s 58
  split
  · exact ⟨by simp, by simp⟩
  · split
    · exact ⟨by simp, by simp⟩
    · split
      · exact ⟨by simp, by simp⟩
      · split
        · rename_i h
          constructor
          · simp
          · simp only
            omega
        · split
          · rename_i h
            constructor
            · simp
            · simp only
              omega
          · split
            · rename_i h
              have hz := ext_size s (a := place s 58 + 1) (b := s.size) (by omega) (Nat.le_refl _)
              have h2 := trim_le_trimL (s.extract (place s 58 + 1) s.size)
              have h3 := trimL_size (s.extract (place s 58 + 1) s.size)
              constructor
              · simp only
                omega
              · simp only
                omega
            · exact ⟨by simp, by simp⟩

def parseGo (s : ByteArray) : Nat → Nat → List Fl → List Fl × Int × Int
  | 0, _, acc => (acc, 0, 0)
  | n + 1, a, acc =>
    if a < s.size then
      if endAt s a = s.size then ([], (s.size : Int), 64)
      else if 100 ≤ acc.length then ([], (a : Int), 65)
      else if (parseLine (s.extract a (endAt s a))).2.2.2 = 0 then parseGo s n (endAt s a + 2) (acc ++ [((parseLine (s.extract a (endAt s a))).1, (parseLine (s.extract a (endAt s a))).2.1)])
      else ([], (a : Int) + (parseLine (s.extract a (endAt s a))).2.2.1, (parseLine (s.extract a (endAt s a))).2.2.2)
    else (acc, 0, 0)
def parseAll (s : ByteArray) : List Fl × Int × Int := parseGo s s.size 0 []
section
variable {s : ByteArray} {n a : Nat} {acc : List Fl}
theorem parseGo_done (h : ¬ a < s.size) : parseGo s n a acc = (acc, 0, 0) := by
  cases n with
  | zero => rfl
  | succ n => unfold parseGo; rw [if_neg h]
theorem parseGo_break (hn : s.size ≤ a + n) (h : a < s.size) (he : endAt s a = s.size) : parseGo s n a acc = ([], (s.size : Int), 64) := by
  obtain ⟨n, rfl⟩ : ∃ m, n = m + 1 := ⟨n - 1, by omega⟩
  unfold parseGo; rw [if_pos h, if_pos he]
theorem parseGo_many (hn : s.size ≤ a + n) (h : a < s.size) (he : ¬ endAt s a = s.size) (hm : 100 ≤ acc.length) : parseGo s n a acc = ([], (a : Int), 65) := by
  obtain ⟨n, rfl⟩ : ∃ m, n = m + 1 := ⟨n - 1, by omega⟩
  unfold parseGo; rw [if_pos h, if_neg he, if_pos hm]
theorem parseGo_bad (hn : s.size ≤ a + n) (h : a < s.size) (he : ¬ endAt s a = s.size) (hm : ¬ 100 ≤ acc.length) (hl : ¬ (parseLine (s.extract a (endAt s a))).2.2.2 = 0) :
    parseGo s n a acc = ([], (a : Int) + (parseLine (s.extract a (endAt s a))).2.2.1, (parseLine (s.extract a (endAt s a))).2.2.2) := by
  obtain ⟨n, rfl⟩ : ∃ m, n = m + 1 := ⟨n - 1, by omega⟩
  unfold parseGo; rw [if_pos h, if_neg he, if_neg hm, if_neg hl]
theorem parseGo_on (hn : s.size ≤ a + n) (h : a < s.size) (he : ¬ endAt s a = s.size) (hm : ¬ 100 ≤ acc.length) (hl : (parseLine (s.extract a (endAt s a))).2.2.2 = 0) :
    parseGo s n a acc = parseGo s (n - 1) (endAt s a + 2) (acc ++ [((parseLine (s.extract a (endAt s a))).1, (parseLine (s.extract a (endAt s a))).2.1)]) := by
  obtain ⟨n, rfl⟩ : ∃ m, n = m + 1 := ⟨n - 1, by omega⟩
  rw [Nat.add_sub_cancel]
  conv => lhs; unfold parseGo
  rw [if_pos h, if_neg he, if_neg hm, if_pos hl]
end
end Go.Proofs.YtamagbdkcfmfmaaDoor
