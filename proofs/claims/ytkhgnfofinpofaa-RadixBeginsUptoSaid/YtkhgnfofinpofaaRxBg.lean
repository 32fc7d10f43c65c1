/-
  Plain words: where a text is wrong hangs on its bytes up to that place alone.
-/
import Derived.Test.YtkhgnfofinpofaaRxP
namespace Go.Proofs.Ytkhgnfofinpofaa

/-- Two texts alike up to a place, that lies within both. -/
def Alike (s t : ByteArray) (m : Nat) : Prop := m < s.size ∧ m < t.size ∧ ∀ j, j ≤ m → bt s j = bt t j
theorem Alike.less {s t : ByteArray} {m k : Nat} (h : Alike s t m) (hk : k ≤ m) : Alike s t k :=
  ⟨Nat.lt_of_le_of_lt hk h.1, Nat.lt_of_le_of_lt hk h.2.1, fun j hj => h.2.2 j (Nat.le_trans hj hk)⟩
theorem statE_alike {s t : ByteArray} {m : Nat} (h : Alike s t m) : ∀ (n i : Nat), s.size - i ≤ n → i ≤ m → (statE s i).1 = m → statE t i = statE s i
  | n, i, hn, hi, hm => by
    obtain ⟨h1, h2, h3⟩ := h
    have hb := h3 i hi
    by_cases h47 : bt s i = 47
    · rw [statE_end (.inr h47), statE_end (.inr (hb ▸ h47))]
    · by_cases h37 : bt s i = 37
      · by_cases hx1 : i + 1 < s.size ∧ isHexB (bt s (i + 1)) = true
        · by_cases hx2 : i + 2 < s.size ∧ isHexB (bt s (i + 2)) = true
          · rw [statE_tri h37 hx1 hx2] at hm ⊢
            have hs := statE_spec s _ (i + 3) (Nat.le_refl _) (by omega)
            match n, hn with
            | 0, hn => omega
            | n + 1, hn =>
              rw [statE_tri (hb ▸ h37) ⟨by omega, by rw [← h3 (i + 1) (by omega)]; exact hx1.2⟩ ⟨by omega, by rw [← h3 (i + 2) (by omega)]; exact hx2.2⟩]
              exact statE_alike ⟨h1, h2, h3⟩ n (i + 3) (by omega) (by omega) hm
          · rw [statE_two h37 hx1 hx2] at hm ⊢
            have hm' : i + 2 = m := hm
            rw [statE_two (hb ▸ h37) ⟨by omega, by rw [← h3 (i + 1) (by omega)]; exact hx1.2⟩ (fun hc => hx2 ⟨by omega, by rw [h3 (i + 2) (by omega)]; exact hc.2⟩)]
        · rw [statE_one (by omega) h37 hx1] at hm ⊢
          have hm' : i + 1 = m := hm
          rw [statE_one (by omega) (hb ▸ h37) (fun hc => hx1 ⟨by omega, by rw [h3 (i + 1) (by omega)]; exact hc.2⟩)]
      · cases hsg : signP (bt s i)
        · rw [statE_no (by omega) h47 h37 hsg, statE_no (by omega) (hb ▸ h47) (hb ▸ h37) (hb ▸ hsg)]
        · rw [statE_on (by omega) h47 h37 hsg] at hm ⊢
          have hs := statE_spec s _ (i + 1) (Nat.le_refl _) (by omega)
          match n, hn with
          | 0, hn => omega
          | n + 1, hn =>
            rw [statE_on (by omega) (hb ▸ h47) (hb ▸ h37) (hb ▸ hsg)]
            exact statE_alike ⟨h1, h2, h3⟩ n (i + 1) (by omega) (by omega) hm
theorem nameE_alike {s t : ByteArray} {m i : Nat} (h : Alike s t m) (hi : i ≤ m) (hm : (nameE s i).1 = m) : nameE t i = nameE s i := by
  obtain ⟨h1, h2, h3⟩ := h
  by_cases hl : i < s.size ∧ letB (bt s i) = true
  · have hl' : i < t.size ∧ letB (bt t i) = true := ⟨by omega, by rw [← h3 i hi]; exact hl.2⟩
    rw [nameE_yes hl] at hm ⊢
    rw [nameE_yes hl']
    have hm' : nameEnd s i = m := hm
    obtain ⟨a, b, c, d⟩ := nameEnd_spec s i (by omega)
    rw [hm'] at a b c d ⊢
    rw [nameEnd_eq (s := t) a (by omega) (fun j p q => by rw [← h3 j (by omega)]; exact c j p q) (fun _ => by rw [← h3 m (Nat.le_refl _)]; exact d h1)]
  · rw [nameE_no hl, nameE_no (fun hc => hl ⟨by omega, by rw [h3 i hi]; exact hc.2⟩)]
theorem kind_alike {s t : ByteArray} {m i : Nat} (h : Alike s t m) (hi : i ≤ m) : kindAt t i = kindAt s i := by
  obtain ⟨h1, h2, h3⟩ := h
  unfold kindAt
  rw [h3 i hi]
  have e1 : i < t.size := by omega
  have e2 : i < s.size := by omega
  simp only [e1, e2, true_and]
theorem endAt_alike {s t : ByteArray} {m i : Nat} (h : Alike s t m) (hi : i ≤ m) (hm : (endAt s i).1 = m) : endAt t i = endAt s i := by
  have hk := kind_alike h hi
  have hz := h.1
  unfold endAt at hm ⊢
  rw [hk]
  by_cases h0 : kindAt s i = 0
  · rw [if_pos h0] at hm ⊢
    rw [if_pos h0]
    exact statE_alike h _ i (Nat.le_refl _) hi hm
  · rw [if_neg h0] at hm ⊢
    rw [if_neg h0]
    have := nameE_spec s (i + 1) (by omega)
    exact nameE_alike h (by omega) hm
theorem ext_alike {s t : ByteArray} {m a b : Nat} (h : Alike s t m) (hb : b ≤ m + 1) : t.extract a b = s.extract a b := by
  obtain ⟨h1, h2, h3⟩ := h
  have hget : ∀ (x : ByteArray) (j : Nat) (hj : j < x.size), x.data.toList[j]? = some x[j] := fun x j hj => by
    rw [Array.getElem?_toList]
    exact Array.getElem?_eq_getElem hj
  have key : t.data.toList.take b = s.data.toList.take b := by
    apply List.ext_getElem?
    intro j
    by_cases hj : j < b
    · rw [List.getElem?_take, List.getElem?_take, if_pos hj, if_pos hj, hget t j (by omega), hget s j (by omega)]
      have e1 := @bt_eq t j (by omega)
      have e2 := @bt_eq s j (by omega)
      rw [← h3 j (by omega)] at e1
      have e3 : t[j].toNat = s[j].toNat := by
        have := e1.trans e2.symm
        exact_mod_cast this
      rw [UInt8.toNat_inj.1 e3]
    · rw [List.getElem?_take, List.getElem?_take, if_neg hj, if_neg hj]
  apply ByteArray.ext
  apply Array.ext'
  rw [ByteArray.data_extract, ByteArray.data_extract, Array.toList_extract, Array.toList_extract, List.extract_eq_take_drop, List.extract_eq_take_drop, ← List.drop_take, ← List.drop_take, key]
theorem pcAt_alike {s t : ByteArray} {m i : Nat} (h : Alike s t m) (hi : i ≤ m) (hm : (endAt s i).1 = m) : pcAt t i = pcAt s i := by
  have hk := kind_alike h hi
  have he := endAt_alike h hi hm
  unfold pcAt fromAt
  rw [hk, he, ext_alike h (by omega)]
theorem wrong_alike {s t : ByteArray} {m i : Nat} (h : Alike s t m) (hi : i ≤ m) (hm : (endAt s i).1 = m) : wrongAt t i = wrongAt s i := by
  have hk := kind_alike h hi
  have he := endAt_alike h hi hm
  unfold wrongAt
  rw [he, hk, hm, h.2.2 m (Nat.le_refl _), decide_eq_true h.1, decide_eq_true h.2.1]
/-- A text that is wrong at a place within it is wrong there, however it goes on. -/
theorem readF_alike {s t : ByteArray} {m : Nat} (h : Alike s t m) : ∀ (n : Nat) (l : List Pc) (a : Nat), s.size - a ≤ n → (readF s l a).2 = (m, false) → (readF t l a).2 = (m, false)
  | n, l, a, hn, hr => by
    have h2 : (readF s l a).2.2 = false := by rw [hr]
    have hsp := readF_spec s _ l a (Nat.le_refl _) h2
    rw [hr] at hsp
    have ham : a < m := hsp.1
    have hz := h.1
    have hz2 := h.2.1
    have hes := endAt_spec s (a + 1) (by omega)
    have hfr := fromAt_ge s (a + 1)
    cases hb : (wrongAt s (a + 1) || twice l (pcAt s (a + 1)))
    · rw [readF_on (by omega) hb] at hr
      have h4 : (readF s (l ++ [pcAt s (a + 1)]) (endAt s (a + 1)).1).2.2 = false := by rw [hr]
      have h5 := readF_spec s _ _ _ (Nat.le_refl _) h4
      rw [hr] at h5
      have hem : (endAt s (a + 1)).1 < m := h5.1
      have hA := h.less (Nat.le_of_lt hem)
      rw [readF_on (by omega) (by rw [wrong_alike hA (by omega) rfl, pcAt_alike hA (by omega) rfl]; exact hb), pcAt_alike hA (by omega) rfl, endAt_alike hA (by omega) rfl]
      match n, hn with
      | 0, hn => omega
      | n + 1, hn => exact readF_alike h n _ _ (by omega) hr
    · rw [readF_bad (by omega) hb] at hr
      have hem : (endAt s (a + 1)).1 = m := congrArg Prod.fst hr
      rw [readF_bad (by omega) (by rw [wrong_alike h (by omega) hem, pcAt_alike h (by omega) hem]; exact hb), endAt_alike h (by omega) hem, hem]
/-- The piece that is wrong; up to it a text that begins alike reads the same. -/
theorem readF_last {s : ByteArray} {m : Nat} (hs : m ≤ s.size) : ∀ (n : Nat) (l : List Pc) (a : Nat), s.size - a ≤ n → (readF s l a).2 = (m, false) →
    (∀ p ∈ l, p.2.size ≤ s.size) → ∃ l' a', a' < m ∧ (endAt s (a' + 1)).1 = m ∧ (wrongAt s (a' + 1) || twice l' (pcAt s (a' + 1))) = true ∧ (∀ p ∈ l', p.2.size ≤ s.size) ∧
      ∀ t : ByteArray, m ≤ t.size → (∀ j, j < m → bt s j = bt t j) → readF t l a = readF t l' a'
  | n, l, a, hn, hr, hl => by
    have h2 : (readF s l a).2.2 = false := by rw [hr]
    have hsp := readF_spec s _ l a (Nat.le_refl _) h2
    rw [hr] at hsp
    have ham : a < m := hsp.1
    have hes := endAt_spec s (a + 1) (by omega)
    have hfr := fromAt_ge s (a + 1)
    cases hb : (wrongAt s (a + 1) || twice l (pcAt s (a + 1)))
    · rw [readF_on (by omega) hb] at hr
      have h4 : (readF s (l ++ [pcAt s (a + 1)]) (endAt s (a + 1)).1).2.2 = false := by rw [hr]
      have h5 := readF_spec s _ _ _ (Nat.le_refl _) h4
      rw [hr] at h5
      have hem : (endAt s (a + 1)).1 < m := h5.1
      match n, hn with
      | 0, hn => omega
      | n + 1, hn =>
        obtain ⟨l', a', q1, q2, q3, q4, q5⟩ := readF_last hs n _ _ (by omega) hr (fun p hp => by
          rcases List.mem_append.1 hp with hp | hp
          · exact hl p hp
          · rw [List.mem_singleton.1 hp]
            unfold pcAt
            rw [ByteArray.size_extract]
            omega)
        refine ⟨l', a', q1, q2, q3, q4, fun t ht hj => ?_⟩
        have hA : Alike s t (endAt s (a + 1)).1 := ⟨by omega, by omega, fun j h => hj j (by omega)⟩
        rw [readF_on (s := t) (by omega) (by rw [wrong_alike hA (by omega) rfl, pcAt_alike hA (by omega) rfl]; exact hb), pcAt_alike hA (by omega) rfl, endAt_alike hA (by omega) rfl]
        exact q5 t ht hj
    · rw [readF_bad (by omega) hb] at hr
      exact ⟨l, a, ham, congrArg Prod.fst hr, hb, hl, fun t _ _ => rfl⟩
/-- A text that begins like another one up to a place and goes on with as many ones. -/
def OnWith (s t : ByteArray) (m k : Nat) : Prop := t.size = m + k ∧ (∀ j, j < m → bt s j = bt t j) ∧ ∀ j, m ≤ j → j < m + k → bt t j = 49
theorem statE_close {s : ByteArray} {m : Nat} : ∀ (n i : Nat), s.size - i ≤ n → i ≤ s.size → statE s i = (m, false) → ∃ k, (k = 0 ∨ k = 1 ∨ k = 2) ∧ ∀ t, OnWith s t m k → statE t i = (m + k, true)
  | n, i, hn, hi, hm => by
    by_cases hlt : i < s.size
    · by_cases h47 : bt s i = 47
      · rw [statE_end (.inr h47)] at hm; cases hm
      · by_cases h37 : bt s i = 37
        · by_cases hx1 : i + 1 < s.size ∧ isHexB (bt s (i + 1)) = true
          · by_cases hx2 : i + 2 < s.size ∧ isHexB (bt s (i + 2)) = true
            · rw [statE_tri h37 hx1 hx2] at hm
              have hs := statE_spec s _ (i + 3) (Nat.le_refl _) (by omega)
              rw [hm] at hs
              have hs1 : i + 3 ≤ m := hs.1
              match n, hn with
              | 0, hn => omega
              | n + 1, hn =>
                obtain ⟨k, hk, h⟩ := statE_close n (i + 3) (by omega) (by omega) hm
                refine ⟨k, hk, fun t ht => ?_⟩
                have h3 := ht.2.1
                have hz := ht.1
                rw [statE_tri (by rw [← h3 i (by omega)]; exact h37) ⟨by omega, by rw [← h3 (i + 1) (by omega)]; exact hx1.2⟩ ⟨by omega, by rw [← h3 (i + 2) (by omega)]; exact hx2.2⟩]
                exact h t ht
            · rw [statE_two h37 hx1 hx2] at hm
              obtain rfl : i + 2 = m := congrArg Prod.fst hm
              refine ⟨1, .inr (.inl rfl), fun t ⟨hz, h3, h4⟩ => ?_⟩
              rw [statE_tri (by rw [← h3 i (by omega)]; exact h37) ⟨by omega, by rw [← h3 (i + 1) (by omega)]; exact hx1.2⟩ ⟨by omega, by rw [h4 (i + 2) (by omega) (by omega)]; decide⟩, statE_end (.inl (by omega))]
          · rw [statE_one hlt h37 hx1] at hm
            obtain rfl : i + 1 = m := congrArg Prod.fst hm
            refine ⟨2, .inr (.inr rfl), fun t ⟨hz, h3, h4⟩ => ?_⟩
            rw [statE_tri (by rw [← h3 i (by omega)]; exact h37) ⟨by omega, by rw [h4 (i + 1) (by omega) (by omega)]; decide⟩ ⟨by omega, by rw [h4 (i + 2) (by omega) (by omega)]; decide⟩, statE_end (.inl (by omega))]
        · cases hsg : signP (bt s i)
          · rw [statE_no hlt h47 h37 hsg] at hm
            obtain rfl : i = m := congrArg Prod.fst hm
            exact ⟨0, .inl rfl, fun t ⟨hz, _, _⟩ => by rw [statE_end (.inl (by omega))]; rfl⟩
          · rw [statE_on hlt h47 h37 hsg] at hm
            have hs := statE_spec s _ (i + 1) (Nat.le_refl _) (by omega)
            rw [hm] at hs
            have hs1 : i + 1 ≤ m := hs.1
            match n, hn with
            | 0, hn => omega
            | n + 1, hn =>
              obtain ⟨k, hk, h⟩ := statE_close n (i + 1) (by omega) (by omega) hm
              refine ⟨k, hk, fun t ht => ?_⟩
              have h3 := ht.2.1
              have hz := ht.1
              have hb := h3 i (by omega)
              rw [statE_on (by omega) (by rw [← hb]; exact h47) (by rw [← hb]; exact h37) (by rw [← hb]; exact hsg)]
              exact h t ht
    · rw [statE_end (.inl (by omega))] at hm; cases hm
/-- A text that begins like another one up to a place and goes on with letters. -/
def OnLong (s t : ByteArray) (m k : Nat) : Prop := t.size = m + k ∧ (∀ j, j < m → bt s j = bt t j) ∧ ∀ j, m ≤ j → j < m + k → bt t j = 113
theorem nameE_close {s t : ByteArray} {i m k : Nat} {g : Bool} (hi : i ≤ s.size) (hm : nameE s i = (m, g)) (hk : 0 < k) (ht : OnLong s t m k) : nameE t i = (m + k, true) := by
  obtain ⟨hz, h3, h4⟩ := ht
  by_cases hl : i < s.size ∧ letB (bt s i) = true
  · rw [nameE_yes hl] at hm
    have hm' : nameEnd s i = m := congrArg Prod.fst hm
    obtain ⟨a, b, c, d⟩ := nameEnd_spec s i hi
    rw [hm'] at a b c
    have him : i < m := by
      rcases Nat.lt_or_ge i m with h | h
      · exact h
      · have e : nameEnd s i = i := by omega
        have := d (by rw [e]; exact hl.1)
        rw [e] at this
        unfold nameB at this
        rw [hl.2] at this
        cases this
    rw [nameE_yes ⟨by omega, by rw [← h3 i him]; exact hl.2⟩, nameEnd_eq (s := t) (k := m + k) (by omega) (by omega) (fun j p q => ?_) (fun h => by omega)]
    rcases Nat.lt_or_ge j m with h | h
    · rw [← h3 j h]; exact c j p h
    · rw [h4 j h q]; decide
  · rw [nameE_no hl] at hm
    obtain rfl : i = m := congrArg Prod.fst hm
    rw [nameE_yes ⟨by omega, by rw [h4 i (Nat.le_refl _) (by omega)]; decide⟩, nameEnd_eq (s := t) (k := i + k) (by omega) (by omega) (fun j p q => by rw [h4 j p q]; decide) (fun h => by omega)]
theorem twice_far {l : List Pc} {p : Pc} {n : Nat} (h : ∀ q ∈ l, q.2.size ≤ n) (hp : n < p.2.size) : twice l p = false := by
  unfold twice
  have e : l.any (sameName p) = false := by
    rw [List.any_eq_false]
    intro q hq hc
    unfold sameName at hc
    rw [Bool.and_eq_true] at hc
    have h1 := of_decide_eq_true hc.2
    have h2 := h q hq
    rw [h1] at h2
    omega
  rw [e]
  simp
theorem readF_close {t : ByteArray} {l : List Pc} {a : Nat} (ha : a < t.size) (he : endAt t (a + 1) = (t.size, true)) (ht : twice l (pcAt t (a + 1)) = false) : (readF t l a).2.2 = true := by
  have hw : wrongAt t (a + 1) = false := by
    unfold wrongAt
    rw [he]
    simp
  rw [readF_on ha (by rw [hw, ht]; rfl), he, readF_end (Nat.le_refl _)]
/-- A WRONG TEXT CAN BE GONE ON WITH: up to its wrong place, by no letter, one or two ones, or many letters. -/
theorem goes_on {s : ByteArray} {m : Nat} (h0 : 0 < s.size ∧ bt s 0 = 47) (hr : (readF s [] 0).2 = (m, false)) :
    (∃ k, (k = 0 ∨ k = 1 ∨ k = 2) ∧ ∀ t, OnWith s t m k → (readP t).2.2 = true) ∨ (∀ t k, s.size < k → OnLong s t m k → (readP t).2.2 = true) := by
  have h2 : (readF s [] 0).2.2 = false := by rw [hr]
  have hsp := readF_spec s _ [] 0 (Nat.le_refl _) h2
  rw [hr] at hsp
  have hm0 : 0 < m := hsp.1
  have hms : m ≤ s.size := hsp.2.1
  obtain ⟨l, a, q1, q2, q3, q4, q5⟩ := readF_last hms _ [] 0 (Nat.le_refl _) hr (fun p hp => by cases hp)
  have hes := endAt_spec s (a + 1) (by omega)
  have hfr := fromAt_ge s (a + 1)
  rcases kind_cases s (a + 1) with ⟨hk, n1, n2⟩ | ⟨hk, hlt, hb⟩ | ⟨hk, hlt, hb⟩
  · refine .inl ?_
    have hE : endAt s (a + 1) = statE s (a + 1) := by unfold endAt; rw [if_pos hk]
    have hst : statE s (a + 1) = (m, false) := by
      rw [hE] at q2
      have hss := statE_spec s _ (a + 1) (Nat.le_refl _) (by omega)
      cases hg : (statE s (a + 1)).2
      · exact Prod.ext q2 hg
      · exfalso
        have h47 := hss.2.2.1 hg
        have htw : twice l (pcAt s (a + 1)) = false := by
          unfold twice pcAt
          rw [hk]
          rfl
        rw [htw, Bool.or_false] at q3
        unfold wrongAt at q3
        rw [hE, hg, hk, q2] at q3
        rw [q2] at h47
        by_cases hml : m < s.size
        · rw [h47 hml] at q3; simp at q3
        · rw [decide_eq_false hml] at q3; simp at q3
    obtain ⟨k, hk3, hcl⟩ := statE_close _ (a + 1) (Nat.le_refl _) (by omega) hst
    refine ⟨k, hk3, fun t ht => ?_⟩
    obtain ⟨hz, h3, h4⟩ := id ht
    have hkt : kindAt t (a + 1) = 0 := by
      unfold kindAt
      rcases Nat.lt_or_ge (a + 1) m with h | h
      · rw [← h3 (a + 1) h, if_neg (fun hc => n1 ⟨by omega, hc.2⟩), if_neg (fun hc => n2 ⟨by omega, hc.2⟩)]
      · by_cases hkz : a + 1 < t.size
        · rw [h4 (a + 1) h (by omega), if_neg (fun hc => absurd hc.2 (by decide)), if_neg (fun hc => absurd hc.2 (by decide))]
        · rw [if_neg (fun hc => hkz hc.1), if_neg (fun hc => hkz hc.1)]
    have h47 : 0 < t.size ∧ bt t 0 = 47 := ⟨by omega, by rw [← h3 0 hm0]; exact h0.2⟩
    rw [readP_yes h47, q5 t (by omega) h3]
    refine readF_close (by omega) ?_ ?_
    · unfold endAt
      rw [if_pos hkt, hcl t ht, hz]
    · unfold twice pcAt
      rw [hkt]
      rfl
  all_goals
    refine .inr fun t k hkl ht => ?_
    obtain ⟨hz, h3, h4⟩ := id ht
    have hfm : fromAt s (a + 1) = a + 2 := by unfold fromAt; rw [if_neg (by omega)]
    have ham : a + 2 ≤ m := by omega
    have hkt : kindAt t (a + 1) = kindAt s (a + 1) := by
      unfold kindAt
      rw [← h3 (a + 1) (by omega)]
      have e1 : a + 1 < t.size := by omega
      simp only [e1, hlt, true_and]
    have hE : endAt s (a + 1) = nameE s (a + 2) := by unfold endAt; rw [if_neg (by omega)]
    rw [hE] at q2
    have hcl := nameE_close (i := a + 2) (by omega) (Prod.ext q2 rfl : nameE s (a + 2) = (m, (nameE s (a + 2)).2)) (by omega) ht
    have hEt : endAt t (a + 1) = (t.size, true) := by
      unfold endAt
      rw [if_neg (by omega), hz]
      exact hcl
    have h47 : 0 < t.size ∧ bt t 0 = 47 := ⟨by omega, by rw [← h3 0 hm0]; exact h0.2⟩
    rw [readP_yes h47, q5 t (by omega) h3]
    refine readF_close (by omega) hEt (twice_far q4 ?_)
    unfold pcAt
    have hft : fromAt t (a + 1) = a + 2 := by unfold fromAt; rw [if_neg (by omega)]
    rw [hEt, hft, ByteArray.size_extract]
    omega
/-- AND NOT BEYOND: with the byte at its wrong place it is wrong, however it goes on. -/
theorem goes_not {s t : ByteArray} {m : Nat} (hr : (readP s).2 = (m, false)) (h : Alike s t m) : (readP t).2.2 = false := by
  by_cases h0 : 0 < s.size ∧ bt s 0 = 47
  · rw [readP_yes h0] at hr
    have h2 : (readF s [] 0).2.2 = false := by rw [hr]
    have hsp := readF_spec s _ [] 0 (Nat.le_refl _) h2
    rw [hr] at hsp
    have hm0 : 0 < m := hsp.1
    have h47 : 0 < t.size ∧ bt t 0 = 47 := ⟨by have := h.2.1; omega, by rw [← h.2.2 0 (by omega)]; exact h0.2⟩
    rw [readP_yes h47, readF_alike h _ [] 0 (Nat.le_refl _) hr]
  · rw [readP_no (s := t) (fun hc => h0 ⟨by have := h.1; omega, by rw [h.2.2 0 (Nat.zero_le _)]; exact hc.2⟩)]
/-- A short text's pattern is read as it stands. -/
theorem split_short {s : ByteArray} (h : s.size ≤ 1024) : splitP s = readP s := by
  unfold splitP capP
  rw [if_neg (fun hc => by omega)]
theorem bt_app_l {x e : ByteArray} {j : Nat} (h : j < x.size) : bt (x ++ e) j = bt x j := by
  have hz : j < (x ++ e).size := by rw [ByteArray.size_append]; omega
  have e1 := @bt_eq (x ++ e) j hz
  have e2 := @bt_eq x j h
  rw [← e1, ← e2, ByteArray.getElem_append_left h]
theorem bt_app_r {x e : ByteArray} {j : Nat} (h : j < e.size) : bt (x ++ e) (x.size + j) = bt e j := by
  have hz : x.size + j < (x ++ e).size := by rw [ByteArray.size_append]; omega
  have e1 := @bt_eq (x ++ e) (x.size + j) hz
  have e2 := @bt_eq e j h
  rw [← e1, ← e2, ByteArray.getElem_append_right (by omega)]
  simp
/-- As many letters. -/
def qs (n : Nat) : ByteArray := ⟨(List.replicate n 113).toArray⟩
theorem qs_size (n : Nat) : (qs n).size = n := by
  show (List.replicate n (113 : UInt8)).toArray.size = n
  simp
theorem qs_bt {n j : Nat} (h : j < n) : bt (qs n) j = 113 := by
  have e1 := @bt_eq (qs n) j (by rw [qs_size]; exact h)
  rw [← e1]
  have e2 : (qs n)[j]'(by rw [qs_size]; exact h) = 113 := by
    show (List.replicate n (113 : UInt8)).toArray[j]'(by simpa using h) = 113
    simp
  rw [e2]
  rfl
theorem qs_succ (n : Nat) : qs n ++ (⟨#[113]⟩ : ByteArray) = qs (n + 1) := by
  apply ByteArray.ext
  rw [ByteArray.data_append]
  show (List.replicate n (113 : UInt8)).toArray ++ #[113] = (List.replicate (n + 1) 113).toArray
  rw [List.replicate_succ', ← List.append_toArray]
def sevenP (n : Nat) : List ByteArray := [⟨#[]⟩, ⟨#[47]⟩, ⟨#[49]⟩, ⟨#[49, 49]⟩, qs n, (⟨#[49]⟩ : ByteArray) ++ qs n, (⟨#[49, 49]⟩ : ByteArray) ++ qs n]
theorem begins_none {s : ByteArray} {m : Nat} (hz : s.size ≤ 400) (hr : (splitP s).2 = (m, false)) (hm : m < s.size) (e : ByteArray) (he : e.size ≤ 500) : (splitP (s.extract 0 (m + 1) ++ e)).2.2 = false := by
  have hx := ext_size s (a := 0) (b := m + 1) (by omega) (by omega)
  have ht : (s.extract 0 (m + 1) ++ e).size = m + 1 + e.size := by rw [ByteArray.size_append, hx]; omega
  rw [split_short (by omega)] at hr
  rw [split_short (by omega)]
  refine goes_not hr ⟨hm, by omega, fun j hj => ?_⟩
  rw [bt_app_l (by omega), ext_bt s (by omega), Nat.zero_add]
theorem begins_some {s : ByteArray} {m : Nat} (hz : s.size ≤ 400) (hr : (splitP s).2 = (m, false)) : ∃ (i : Nat) (e : ByteArray), (sevenP (s.size + 1))[i]? = some e ∧ (splitP (s.extract 0 m ++ e)).2.2 = true := by
  rw [split_short (by omega)] at hr
  by_cases h0 : 0 < s.size ∧ bt s 0 = 47
  · rw [readP_yes h0] at hr
    have h2 : (readF s [] 0).2.2 = false := by rw [hr]
    have hsp := readF_spec s _ [] 0 (Nat.le_refl _) h2
    rw [hr] at hsp
    have hms : m ≤ s.size := hsp.2.1
    have hx := ext_size s (a := 0) (b := m) (by omega) hms
    have hpre : ∀ e j, j < m → bt s j = bt (s.extract 0 m ++ e) j := fun e j hj => by rw [bt_app_l (by omega), ext_bt s (by omega), Nat.zero_add]
    have hsuf : ∀ (e : ByteArray) j, m ≤ j → j < m + e.size → bt (s.extract 0 m ++ e) j = bt e (j - m) := fun e j h1 h2 => by
      have h := @bt_app_r (s.extract 0 m) e (j - m) (by omega)
      rw [hx] at h
      rwa [show m - 0 + (j - m) = j by omega] at h
    have hsz : ∀ e, (s.extract 0 m ++ e).size = m + e.size := fun e => by rw [ByteArray.size_append, hx]; omega
    rcases goes_on h0 hr with ⟨k, hk, h⟩ | h
    · rcases hk with rfl | rfl | rfl
      · refine ⟨0, ⟨#[]⟩, rfl, ?_⟩
        rw [split_short (by rw [hsz]; show m + 0 ≤ 1024; omega)]
        exact h _ ⟨hsz _, hpre _, fun j a b => by omega⟩
      · refine ⟨2, ⟨#[49]⟩, rfl, ?_⟩
        rw [split_short (by rw [hsz]; show m + 1 ≤ 1024; omega)]
        refine h _ ⟨hsz _, hpre _, fun j a b => ?_⟩
        rw [hsuf ⟨#[49]⟩ j a b, show j - m = 0 by omega]
        rfl
      · refine ⟨3, ⟨#[49, 49]⟩, rfl, ?_⟩
        rw [split_short (by rw [hsz]; show m + 2 ≤ 1024; omega)]
        refine h _ ⟨hsz _, hpre _, fun j a b => ?_⟩
        rw [hsuf ⟨#[49, 49]⟩ j a b]
        have : j - m = 0 ∨ j - m = 1 := by omega
        rcases this with e | e
        · rw [e]; rfl
        · rw [e]; rfl
    · refine ⟨4, qs (s.size + 1), rfl, ?_⟩
      rw [split_short (by rw [hsz, qs_size]; omega)]
      refine h _ (s.size + 1) (Nat.lt_succ_self _) ⟨by rw [hsz, qs_size], hpre _, fun j a b => ?_⟩
      rw [hsuf _ j a (by rw [qs_size]; exact b), qs_bt (by omega)]
  · rw [readP_no h0] at hr
    obtain rfl : 0 = m := congrArg Prod.fst hr
    refine ⟨1, ⟨#[47]⟩, rfl, ?_⟩
    have e : s.extract 0 0 ++ (⟨#[47]⟩ : ByteArray) = ⟨#[47]⟩ := by
      rw [show s.extract 0 0 = ByteArray.empty from by apply ByteArray.ext; simp, ByteArray.empty_append]
    rw [e]
    decide +kernel
end Go.Proofs.Ytkhgnfofinpofaa
