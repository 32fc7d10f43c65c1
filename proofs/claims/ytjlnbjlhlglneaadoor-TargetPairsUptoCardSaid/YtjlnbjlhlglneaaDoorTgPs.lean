/-
  Plain laws: pairs printed as a query are read again.
-/
import Derived.Test.YtjlnbjlhlglneaaDoorTgPp
import Derived.Test.YtjlnbjlhlglneaaDoorTgSpc
namespace Go.Proofs.YtjlnbjlhlglneaaDoor

theorem enc_no {c : Int} (h : encSign c = false) (s : ByteArray) : ∀ j, j < (enc s).size → bt (enc s) j ≠ c := fun j hj e => by
  have h1 := allB_at (enc_signs s) j hj
  rw [e, h] at h1
  cases h1
theorem path_query {c : Int} (h : pathSign c = true) : querySign c = true := by unfold querySign; rw [h]; rfl
theorem query_37 : querySign 37 = false := by decide +kernel
theorem PL.qstop {s : ByteArray} {l : List UInt8} (h : PL l) : ∀ i, s.data.toList.drop i = l → i ≤ s.size → stopF querySign s i = s.size := by
  induction h with
  | nil =>
    intro i hd hi
    have := List.drop_eq_nil_iff.1 hd
    rw [size_eq] at this
    rw [stopF_end this]
    omega
  | @sign c l hc _ ih =>
    intro i hd hi
    obtain ⟨h1, h2, _, h4⟩ := drop_head hd
    have h37 : bt s i ≠ 37 := fun e => by
      rw [← h2, e, path_37] at hc
      cases hc
    rw [stopF_on h1 (tri_other h37) (by rw [h2]; exact path_query hc)]
    exact ih (i + 1) h4 (by omega)
  | @trip b l hb _ ih =>
    intro i hd hi
    obtain ⟨h1, _, _, h4⟩ := tri_pct hd
    have := (tri_iff.1 h1).1
    rw [stopF_tri h1]
    exact ih (i + 3) h4 (by omega)
def NoB (c : Int) (x : ByteArray) : Prop := ∀ j, j < x.size → bt x j ≠ c
theorem cut_at {c : UInt8} {s x r : ByteArray} (h : s.data.toList = x.data.toList ++ c :: r.data.toList) (hx : NoB c.toNat x) : x.size < s.size ∧ place s c.toNat = x.size ∧ s.extract 0 x.size = x ∧ s.extract (x.size + 1) s.size = r := by
  have hz : s.size = x.size + (r.size + 1) := by rw [← size_eq, h, List.length_append, List.length_cons, size_eq, size_eq]
  refine ⟨by omega, place_at (by omega) ?_ (fun j hj => ?_), ?_, ?_⟩
  · unfold bt
    rw [h, List.getD_eq_getElem?_getD, List.getElem?_append_right (by rw [size_eq]; omega), size_eq, Nat.sub_self]
    rfl
  · have e : bt s j = bt x j := by
      unfold bt
      rw [h, List.getD_eq_getElem?_getD, List.getD_eq_getElem?_getD, List.getElem?_append_left (by rw [size_eq]; exact hj)]
    rw [e]
    exact hx j hj
  · apply mk_eq
    rw [Lib.extract_data, h, List.drop_zero, Nat.sub_zero, List.take_left' (size_eq x)]
  · apply mk_eq
    rw [ext_all, h, show x.size + 1 = (x.data.toList ++ [c]).length by rw [List.length_append, size_eq]; rfl]
    rw [show x.data.toList ++ c :: r.data.toList = (x.data.toList ++ [c]) ++ r.data.toList by simp, List.drop_left]
theorem join_cons (x y : List UInt8) (r : List (List UInt8)) (c : UInt8) : Lib.join (x :: y :: r) [c] = x ++ c :: Lib.join (y :: r) [c] := by simp [Lib.join, List.intercalate]
theorem join_one (x : List UInt8) (c : UInt8) : Lib.join [x] [c] = x := by simp [Lib.join, List.intercalate]
theorem join_snoc (c : UInt8) (x : List UInt8) : ∀ {l : List (List UInt8)}, l ≠ [] → Lib.join (l ++ [x]) [c] = Lib.join l [c] ++ c :: x
  | [], h => absurd rfl h
  | [y], _ => by rw [show [y] ++ [x] = y :: x :: [] from rfl, join_cons, join_one, join_one]
  | y :: z :: r, _ => by
    have ih := join_snoc c x (l := z :: r) (by simp)
    rw [show (y :: z :: r) ++ [x] = y :: z :: (r ++ [x]) from rfl, join_cons, join_cons, show z :: (r ++ [x]) = (z :: r) ++ [x] from rfl, ih]
    simp
theorem split_join {c : UInt8} : ∀ {l : List ByteArray}, l ≠ [] → (∀ x ∈ l, NoB c.toNat x) → ∀ s : ByteArray, s.data.toList = Lib.join (l.map (·.data.toList)) [c] → splitC s c.toNat = l
  | [], h, _, _, _ => absurd rfl h
  | [x], _, hf, s, e => by
    rw [List.map_cons, List.map_nil, join_one] at e
    have : s = x := mk_eq e
    subst this
    exact splitC_miss (place_none (hf s (by simp)))
  | x :: y :: l, _, hf, s, e => by
    rw [List.map_cons, List.map_cons, join_cons] at e
    obtain ⟨h1, h2, h3, h4⟩ := cut_at (r := ⟨(Lib.join ((y :: l).map (·.data.toList)) [c]).toArray⟩) e (hf x (by simp))
    rw [splitC_hit h1 h2, h3, h4]
    congr 1
    exact split_join (by simp) (fun z hz => hf z (by simp [hz])) _ rfl
def oneT (p : Pr) : ByteArray := ⟨(printOne p).toArray⟩
theorem space_same {s : ByteArray} (h : NoB 43 s) : spaceT s = s := mk_eq (spaces_none h)
theorem spaced_enc (s : ByteArray) : spacedT (enc s) = s := by
  rw [spacedT_eq, space_same (enc_no (by decide +kernel) s), decR_enc]
theorem empty_of {s : ByteArray} (h : s.size = 0) : s = ⟨#[]⟩ := mk_eq (List.eq_nil_of_length_eq_zero (by rw [size_eq]; exact h))
theorem encL_ge1 (l : List UInt8) : l.length ≤ (encL l).length := by
  induction l with
  | nil => exact Nat.le_refl _
  | cons b l ih =>
    have e : encL (b :: l) = encB b ++ encL l := rfl
    have := (encB_len b).1
    rw [e, List.length_append, List.length_cons]
    omega
theorem encL_ge' (s : ByteArray) : s.size ≤ (enc s).size := by
  rw [← size_eq, ← size_eq]
  exact encL_ge1 _
theorem pair_one {p : Pr} (h : badPair p = false) : pairOf (oneT p) = p ∧ ¬ (oneT p).size = 0 ∧ NoB 38 (oneT p) ∧ PL (oneT p).data.toList := by
  obtain ⟨x, y, b⟩ := p
  have e38 : encSign 38 = false := by decide +kernel
  have e61 : encSign ((61 : UInt8).toNat : Int) = false := by decide +kernel
  have s61 : pathSign ((61 : UInt8).toNat : Int) = true := by decide +kernel
  cases b
  · have hy : y.size = 0 := by
      unfold badPair at h
      simp at h
      have := h.1
      rw [this]
      rfl
    have hx : ¬ x.size = 0 := by
      unfold badPair at h
      simp at h
      intro e
      exact h.2 (empty_of e)
    have ho : oneT (x, y, false) = enc x := mk_eq (by
      show (enc x).data.toList ++ (if false = true then _ else []) = _
      simp)
    have hez : ¬ (enc x).size = 0 := by
      have := encL_ge' x
      omega
    rw [ho]
    refine ⟨?_, hez, enc_no e38 x, enc_PL x⟩
    unfold pairOf
    rw [cutW_miss (place_none (c := 61) (enc_no e61 x))]
    show (spacedT (enc x), spacedT ⟨#[]⟩, false) = _
    rw [spaced_enc, empty_of hy]
    rfl
  · have ho : (oneT (x, y, true)).data.toList = (enc x).data.toList ++ 61 :: (enc y).data.toList := by
      show (enc x).data.toList ++ (if true = true then _ else []) = _
      simp
    obtain ⟨h1, h2, h3, h4⟩ := cut_at (c := 61) ho (enc_no e61 x)
    refine ⟨?_, by omega, fun j hj => ?_, ?_⟩
    · unfold pairOf
      rw [cutW_hit (c := 61) h1 h2, h3, h4]
      show (spacedT (enc x), spacedT (enc y), true) = _
      rw [spaced_enc, spaced_enc]
    · have hz : (oneT (x, y, true)).size = (enc x).size + ((enc y).size + 1) := by rw [← size_eq, ho, List.length_append, List.length_cons, size_eq, size_eq]
      unfold bt
      rw [ho, List.getD_eq_getElem?_getD]
      rcases Nat.lt_trichotomy j (enc x).size with hlt | heq | hgt
      · rw [List.getElem?_append_left (by rw [size_eq]; exact hlt), ← List.getD_eq_getElem?_getD]
        exact enc_no e38 x j hlt
      · rw [List.getElem?_append_right (by rw [size_eq]; omega), size_eq, heq, Nat.sub_self]
        show ((61 : UInt8).toNat : Int) ≠ 38
        decide
      · rw [List.getElem?_append_right (by rw [size_eq]; omega), size_eq, show j - (enc x).size = (j - (enc x).size - 1) + 1 by omega, List.getElem?_cons_succ, ← List.getD_eq_getElem?_getD]
        exact enc_no e38 y _ (by omega)
    · rw [ho]
      exact (enc_PL x).append (.sign s61 (enc_PL y))
theorem join_PL {l : List ByteArray} (h : ∀ x ∈ l, PL x.data.toList) : PL (Lib.join (l.map (·.data.toList)) [38]) := by
  have s38 : pathSign ((38 : UInt8).toNat : Int) = true := by decide +kernel
  induction l with
  | nil => exact .nil
  | cons x l ih =>
    cases l with
    | nil => rw [List.map_cons, List.map_nil, join_one]; exact h x (by simp)
    | cons y r =>
      rw [List.map_cons, List.map_cons, join_cons]
      exact (h x (by simp)).append (.sign s38 (ih fun z hz => h z (by simp [hz])))
theorem print_read {l : List Pr} (h : l.any badPair = false) : queryR (printQ l).1 = (l, 0, 0) := by
  have hall : ∀ p ∈ l, badPair p = false := fun p hp => by
    have := (List.any_eq_false.1 h) p hp
    simpa using this
  have hq : (printQ l).1 = ⟨(Lib.join (l.map printOne) [38]).toArray⟩ := by unfold printQ; rw [if_neg (by rw [h]; simp)]
  rw [hq]
  have hm : l.map printOne = (l.map oneT).map (·.data.toList) := by rw [List.map_map]; rfl
  have hpl : PL (Lib.join (l.map printOne) [38]) := by
    rw [hm]
    refine join_PL fun x hx => ?_
    obtain ⟨p, hp, rfl⟩ := List.mem_map.1 hx
    exact (pair_one (hall p hp)).2.2.2
  generalize hs : (⟨(Lib.join (l.map printOne) [38]).toArray⟩ : ByteArray) = s
  have hd : s.data.toList = Lib.join (l.map printOne) [38] := by rw [← hs]
  have hst : queryStop s = s.size := hpl.qstop 0 hd (by omega)
  unfold queryR
  rw [if_neg (by omega)]
  by_cases hn : l = []
  · subst hn
    have : s = ⟨#[]⟩ := mk_eq (by rw [hd]; rfl)
    subst this
    rfl
  · have hsp : splitC s 38 = l.map oneT := split_join (c := 38) (by simpa using hn) (fun x hx => by
      obtain ⟨p, hp, rfl⟩ := List.mem_map.1 hx
      exact (pair_one (hall p hp)).2.2.1) s (by rw [hd, hm])
    rw [hsp]
    congr 1
    unfold pairsL
    have hf : (l.map oneT).filter (fun p => !decide (p.size = 0)) = l.map oneT := List.filter_eq_self.2 fun x hx => by
      obtain ⟨p, hp, rfl⟩ := List.mem_map.1 hx
      rw [decide_eq_false (pair_one (hall p hp)).2.1]
      rfl
    rw [hf, List.map_map]
    have : ∀ p ∈ l, (pairOf ∘ oneT) p = p := fun p hp => (pair_one (hall p hp)).1
    exact (List.map_congr_left this).trans (List.map_id l)
end Go.Proofs.YtjlnbjlhlglneaaDoor
