/-
  Plain laws on paths in their normal form.
-/
import Derived.Test.YtjlnbjlhlglneaaDoorTgD
import Derived.Test.YtjlnbjlhlglneaaDoorTgN
import Derived.Test.YtjlnbjlhlglneaaDoorTgRz
namespace Go.Proofs.YtjlnbjlhlglneaaDoor

/-- Signs of paths, and triples of bytes that are not unreserved. -/
inductive PL : List UInt8 → Prop
  | nil : PL []
  | sign {c : UInt8} {l : List UInt8} : pathSign (c.toNat : Int) = true → PL l → PL (c :: l)
  | trip {b : UInt8} {l : List UInt8} : unres (b.toNat : Int) = false → PL l → PL (pct b ++ l)
theorem PL.append {a b : List UInt8} (ha : PL a) (hb : PL b) : PL (a ++ b) := by
  induction ha with
  | nil => exact hb
  | sign h _ ih => exact .sign h ih
  | trip h _ ih => rw [List.append_assoc]; exact .trip h ih
theorem unres_path {c : Int} (h : unres c = true) : pathSign c = true := by unfold pathSign hostSign; rw [h]; rfl
theorem sign_47 : pathSign ((47 : UInt8).toNat : Int) = true := by decide +kernel
theorem unres_47 : unres 47 = false := by decide +kernel
theorem unres_46 : unres ((46 : UInt8).toNat : Int) = true := by decide +kernel
theorem encB_PL (b : UInt8) : PL (encB b) := by
  unfold encB
  split
  · rename_i h
    exact .sign (unres_path h) .nil
  · rename_i h
    have := PL.trip (b := b) (by simpa using h) PL.nil
    rwa [List.append_nil] at this
theorem PL.stop {s : ByteArray} {l : List UInt8} (h : PL l) : ∀ i, s.data.toList.drop i = l → i ≤ s.size → stopF pathSign s i = s.size := by
  induction h with
  | nil =>
    intro i hd hi
    have := List.drop_eq_nil_iff.1 hd
    rw [size_eq] at this
    rw [stopF_end this]
    omega
  | @sign c l hc _ ih =>
    intro i hd hi
    obtain ⟨h1, h2, _, h4⟩ := drop_head hd
    have h37 : bt s i ≠ 37 := fun e => by
      rw [← h2, e, path_37] at hc
      cases hc
    rw [stopF_on h1 (tri_other h37) (by rw [h2]; exact hc)]
    exact ih (i + 1) h4 (by omega)
  | @trip b l hb _ ih =>
    intro i hd hi
    obtain ⟨h1, _, _, h4⟩ := tri_pct hd
    have := (tri_iff.1 h1).1
    rw [stopF_tri h1]
    exact ih (i + 3) h4 (by omega)
theorem PL.plain {s : ByteArray} {l : List UInt8} (h : PL l) : ∀ i acc, s.data.toList.drop i = l → i ≤ s.size → plF s i acc = acc ++ l := by
  induction h with
  | nil =>
    intro i acc hd hi
    have := List.drop_eq_nil_iff.1 hd
    rw [size_eq] at this
    rw [plF_end this, List.append_nil]
  | @sign c l hc _ ih =>
    intro i acc hd hi
    obtain ⟨h1, h2, h3, h4⟩ := drop_head hd
    have h37 : bt s i ≠ 37 := fun e => by
      rw [← h2, e, path_37] at hc
      cases hc
    rw [plF_on h1 (tri_other h37), ih (i + 1) _ h4 (by omega), h3]
    simp
  | @trip b l hb _ ih =>
    intro i acc hd hi
    obtain ⟨h1, h2, _, h4⟩ := tri_pct hd
    have := (tri_iff.1 h1).1
    rw [plF_tri h1, ih (i + 3) _ h4 (by omega), h2]
    unfold encB
    rw [if_neg (by rw [hb]; simp), List.append_assoc]
theorem PL.of_plain (s : ByteArray) : ∀ n i, s.size - i ≤ n → i ≤ s.size → stopF pathSign s i = s.size → PL (plF s i [])
  | n, i, hn, hi, hs => by
    by_cases hlt : i < s.size
    · match n, hn with
      | 0, hn => omega
      | n + 1, hn =>
        cases ht : tri s i
        · have hp : pathSign (bt s i) = true := by
            cases hp : pathSign (bt s i)
            · rw [stopF_stop hlt ht hp] at hs
              omega
            · rfl
          rw [stopF_on hlt ht hp] at hs
          rw [plF_on hlt ht, plF_acc s s.size (i + 1) _ (by omega)]
          exact .sign (by rw [byteAt_bt]; exact hp) (PL.of_plain s n (i + 1) (by omega) (by omega) hs)
        · have := (tri_iff.1 ht).1
          rw [stopF_tri ht] at hs
          rw [plF_tri ht, plF_acc s s.size (i + 3) _ (by omega), List.nil_append]
          exact (encB_PL _).append (PL.of_plain s n (i + 3) (by omega) (by omega) hs)
    · rw [plF_end (by omega)]
      exact .nil
theorem plain_PL {s : ByteArray} (h : isPathB s = true) : PL (plainT s).data.toList := by
  obtain ⟨_, _, h2⟩ := path_parts h
  exact PL.of_plain s s.size 0 (by omega) (by omega) h2
theorem PL.is_plain {s : ByteArray} (h : PL s.data.toList) : plainT s = s := by
  apply ByteArray.ext
  apply Array.ext'
  show plF s 0 [] = _
  rw [h.plain 0 [] rfl (by omega), List.nil_append]
theorem hex_not_47 : ∀ n : Nat, n < 256 → (upDigits.data.toList.getD (n / 16) 0 ≠ 47 ∧ upDigits.data.toList.getD (n % 16) 0 ≠ 47) := by decide +kernel
theorem PL.cut {l : List UInt8} (h : PL l) : ∀ a b, l = a ++ 47 :: b → PL a ∧ PL b := by
  induction h with
  | nil => intro a b e; cases a <;> cases e
  | @sign c l hc hl ih =>
    intro a b e
    cases a with
    | nil =>
      injection e with _ e
      subst e
      exact ⟨.nil, hl⟩
    | cons x a =>
      injection e with e1 e
      subst e1
      obtain ⟨h1, h2⟩ := ih a b e
      exact ⟨.sign hc h1, h2⟩
  | @trip x l hx hl ih =>
    intro a b e
    obtain ⟨n1, n2⟩ := hex_not_47 x.toNat x.toNat_lt
    change 37 :: upDigits.data.toList.getD (x.toNat / 16) 0 :: upDigits.data.toList.getD (x.toNat % 16) 0 :: l = a ++ 47 :: b at e
    match a with
    | [] => injection e with e _; exact absurd e (by decide)
    | [_] =>
      injection e with _ e
      injection e with e _
      exact absurd e n1
    | [_, _] =>
      injection e with _ e
      injection e with _ e
      injection e with e _
      exact absurd e n2
    | p :: q :: r :: a =>
      injection e with e1 e
      injection e with e2 e
      injection e with e3 e
      obtain ⟨h1, h2⟩ := ih a b e
      subst e1 e2 e3
      exact ⟨.trip hx h1, h2⟩
/-- What such a text says. -/
theorem PL.dec {s : ByteArray} {l : List UInt8} (h : PL l) : ∀ i, s.data.toList.drop i = l → i ≤ s.size → ∃ d, (∀ acc, decF s i acc = (acc ++ d, 0, true)) ∧ (d = [] → l = []) ∧ (d = [46] → l = [46]) ∧ (d = [46, 46] → l = [46, 46]) := by
  induction h with
  | nil =>
    intro i hd hi
    have := List.drop_eq_nil_iff.1 hd
    rw [size_eq] at this
    exact ⟨[], fun acc => by rw [decF_end this, List.append_nil], fun _ => rfl, fun e => by (cases e), fun e => by (cases e)⟩
  | @sign c l hc _ ih =>
    intro i hd hi
    obtain ⟨h1, h2, h3, h4⟩ := drop_head hd
    have h37 : bt s i ≠ 37 := fun e => by
      rw [← h2, e, path_37] at hc
      cases hc
    obtain ⟨d, g1, g2, g3, g4⟩ := ih (i + 1) h4 (by omega)
    refine ⟨c :: d, fun acc => by rw [decF_on h1 h37, g1, h3]; simp, fun e => by (cases e), fun e => ?_, fun e => ?_⟩
    · injection e with e1 e2
      rw [e1, g2 e2]
    · injection e with e1 e2
      rw [e1, g3 e2]
  | @trip b l hb _ ih =>
    intro i hd hi
    obtain ⟨h1, h2, h0, h4⟩ := tri_pct hd
    have := (tri_iff.1 h1).1
    obtain ⟨d, g1, g2, g3, g4⟩ := ih (i + 3) h4 (by omega)
    have h46 : b ≠ 46 := fun e => by
      rw [e, unres_46] at hb
      cases hb
    refine ⟨b :: d, fun acc => by rw [decF_tri h1, g1, h2]; simp, fun e => by (cases e), fun e => ?_, fun e => ?_⟩
    · injection e with e1 _
      exact absurd e1 h46
    · injection e with e1 _
      exact absurd e1 h46

/-! Segments. -/
def Free (x : ByteArray) : Prop := ∀ j, j < x.size → bt x j ≠ 47
theorem free_mem {x : ByteArray} (h : Free x) : (47 : UInt8) ∉ x.data.toList := fun hm => by
  obtain ⟨j, hj, e⟩ := List.getElem_of_mem hm
  have := h j (by rw [← size_eq]; exact hj)
  unfold bt at this
  rw [List.getD_eq_getElem?_getD, List.getElem?_eq_getElem hj, Option.getD_some, e] at this
  exact this rfl
/-- A segment as normal forms have it. -/
structure Right (x : ByteArray) : Prop where
  pl : PL x.data.toList
  free : Free x
  dots : isDots x = false
theorem mk_eq {a b : ByteArray} (h : a.data.toList = b.data.toList) : a = b := ByteArray.ext (Array.ext' h)
theorem cut_list {s x r : ByteArray} (h : s.data.toList = x.data.toList ++ 47 :: r.data.toList) (hx : Free x) : x.size < s.size ∧ place s 47 = x.size ∧ s.extract 0 x.size = x ∧ s.extract (x.size + 1) s.size = r := by
  have hz : s.size = x.size + (r.size + 1) := by rw [← size_eq, h, List.length_append, List.length_cons, size_eq, size_eq]
  refine ⟨by omega, place_at (by omega) ?_ (fun j hj => ?_), ?_, ?_⟩
  · unfold bt
    rw [h, List.getD_eq_getElem?_getD, List.getElem?_append_right (by rw [size_eq]; omega), size_eq, Nat.sub_self]
    rfl
  · have e : bt s j = bt x j := by
      unfold bt
      rw [h, List.getD_eq_getElem?_getD, List.getD_eq_getElem?_getD, List.getElem?_append_left (by rw [size_eq]; exact hj)]
    rw [e]
    exact hx j hj
  · apply mk_eq
    rw [Lib.extract_data, h, List.drop_zero, Nat.sub_zero, List.take_left' (size_eq x)]
  · apply mk_eq
    rw [ext_all, h, show x.size + 1 = (x.data.toList ++ [47]).length by rw [List.length_append, size_eq]; rfl]
    rw [show x.data.toList ++ 47 :: r.data.toList = (x.data.toList ++ [47]) ++ r.data.toList by simp, List.drop_left]
theorem split_slash : ∀ {l : List ByteArray}, l ≠ [] → (∀ x ∈ l, Free x) → ∀ s : ByteArray, 47 :: s.data.toList = slashAll l → splitC s 47 = l
  | [], h, _, _, _ => absurd rfl h
  | [x], _, hf, s, e => by
    have e' : s.data.toList = x.data.toList := by simpa [slashAll] using e
    have : s = x := mk_eq e'
    subst this
    exact splitC_miss (place_none (hf s (by simp)))
  | x :: y :: l, _, hf, s, e => by
    have e1 : s.data.toList = x.data.toList ++ slashAll (y :: l) := by
      have : slashAll (x :: y :: l) = 47 :: (x.data.toList ++ slashAll (y :: l)) := rfl
      rw [this] at e
      injection e
    obtain ⟨r, hr⟩ : ∃ r : ByteArray, slashAll (y :: l) = 47 :: r.data.toList := ⟨⟨(y.data.toList ++ slashAll l).toArray⟩, rfl⟩
    rw [hr] at e1
    obtain ⟨h1, h2, h3, h4⟩ := cut_list e1 (hf x (by simp))
    rw [splitC_hit h1 h2, h3, h4]
    congr 1
    exact split_slash (by simp) (fun z hz => hf z (by simp [hz])) r hr.symm
theorem pieces_PL : ∀ (n : Nat) (s : ByteArray), s.size ≤ n → PL s.data.toList → ∀ x ∈ splitC s 47, PL x.data.toList
  | n, s, hn, hp, x, hx => by
    rcases place_spec s 47 with ⟨h, _⟩ | ⟨k, h, hk, hb, _⟩
    · rw [splitC_miss h] at hx
      obtain rfl : x = s := by simpa using hx
      exact hp
    · rw [splitC_hit hk h] at hx
      have hkl : k < s.data.toList.length := by rw [size_eq]; exact hk
      have e : s.data.toList = (s.extract 0 k).data.toList ++ 47 :: (s.extract (k + 1) s.size).data.toList := by
        rw [Lib.extract_data, ext_all, List.drop_zero, Nat.sub_zero]
        have h47 : s.data.toList[k] = 47 := by
          apply UInt8.toNat_inj.1
          unfold bt at hb
          rw [List.getD_eq_getElem?_getD, List.getElem?_eq_getElem hkl] at hb
          exact Int.ofNat.inj hb
        rw [← h47, ← List.drop_eq_getElem_cons hkl, List.take_append_drop]
      obtain ⟨g1, g2⟩ := hp.cut _ _ e
      rcases List.mem_cons.1 hx with rfl | hx
      · exact g1
      · match n, hn with
        | 0, hn => omega
        | n + 1, hn => exact pieces_PL n _ (by have := ext_size s (a := k + 1) (b := s.size) (by omega) (Nat.le_refl _); omega) g2 x hx
theorem keepOne_mem {kept : List ByteArray} {x y : ByteArray} (h : y ∈ keepOne kept x) : y ∈ kept ∨ (y = x ∧ isDots x = false) := by
  unfold keepOne at h
  split at h
  · exact .inl (List.dropLast_subset _ h)
  · rename_i h1
    split at h
    · exact .inl h
    · rename_i h2
      rcases List.mem_append.1 h with h | h
      · exact .inl h
      · exact .inr ⟨by simpa using h, by unfold isDots; rw [decide_eq_false h1, decide_eq_false h2]; rfl⟩
theorem keepAll_mem : ∀ (l kept : List ByteArray) (y : ByteArray), y ∈ keepAll kept l → y ∈ kept ∨ (y ∈ l ∧ isDots y = false)
  | [], _, _, h => .inl h
  | x :: l, kept, y, h => by
    rcases keepAll_mem l (keepOne kept x) y h with h | ⟨h, hd⟩
    · rcases keepOne_mem h with h | ⟨rfl, hd⟩
      · exact .inl h
      · exact .inr ⟨by simp, hd⟩
    · exact .inr ⟨by simp [h], hd⟩
theorem right_nil : Right ⟨#[]⟩ := ⟨.nil, fun j hj => absurd hj (Nat.not_lt_zero j), rfl⟩
theorem keptR_right {l : List ByteArray} (hp : ∀ x ∈ l, PL x.data.toList) (hf : ∀ x ∈ l, Free x) : ∀ x ∈ keptR l, Right x := by
  have h : ∀ x ∈ keepAll [] l, Right x := fun x hx => by
    rcases keepAll_mem l [] x hx with h | ⟨h, hd⟩
    · cases h
    · exact ⟨hp x h, hf x h, hd⟩
  intro x hx
  unfold keptR at hx
  split at hx
  · rcases List.mem_append.1 hx with hx | hx
    · exact h x hx
    · obtain rfl : x = ⟨#[]⟩ := by simpa using hx
      exact right_nil
  · exact h x hx
/-- The segments of a normal form. -/
def normSegs (s : ByteArray) : List ByteArray := keptR (splitC (behind1 (plainT s)) 47)
theorem behind_PL {s : ByteArray} (h : isPathB s = true) : PL (behind1 (plainT s)).data.toList := by
  have hp := plain_PL h
  obtain ⟨h0, h1, _⟩ := path_parts h
  have ht : tri s 0 = false := tri_other (by omega)
  have e : (plainT s).data.toList = 47 :: plF s 1 [] := by
    have e1 := plF_on (acc := []) h0 ht
    rw [plF_acc s s.size 1 _ (by omega)] at e1
    have h47 : byteAt s 0 = 47 := by
      apply UInt8.toNat_inj.1
      have := byteAt_bt s 0
      rw [h1] at this
      exact Int.ofNat.inj this
    show plF s 0 [] = _
    rw [e1, h47]
    rfl
  unfold behind1
  rw [ext_all, e]
  exact (hp.cut [] _ (by rw [e]; rfl)).2
theorem normSegs_right {s : ByteArray} (h : isPathB s = true) : ∀ x ∈ normSegs s, Right x :=
  keptR_right (pieces_PL _ _ (Nat.le_refl _) (behind_PL h)) (fun x hx => splitC_free _ _ x (Nat.le_refl _) hx)
theorem normSegs_ne (s : ByteArray) : normSegs s ≠ [] := keptR_ne (splitC_ne _ _)
theorem normR_segs {s : ByteArray} (h : isPathB s = true) : normR s = (pathOf (normSegs s), 0) := if_pos h
theorem slash_PL {l : List ByteArray} (h : ∀ x ∈ l, PL x.data.toList) : PL (slashAll l) := by
  induction l with
  | nil => exact .nil
  | cons x l ih =>
    have : slashAll (x :: l) = 47 :: (x.data.toList ++ slashAll l) := rfl
    rw [this]
    exact .sign sign_47 ((h x (by simp)).append (ih fun y hy => h y (by simp [hy])))
theorem pathOf_data {l : List ByteArray} (h : l ≠ []) : (pathOf l).data.toList = slashAll l := by unfold pathOf; rw [if_neg h]
/-- The normal form of segments that are laid out. -/
theorem norm_slash {t : ByteArray} {l : List ByteArray} (hne : l ≠ []) (hp : ∀ x ∈ l, PL x.data.toList) (hf : ∀ x ∈ l, Free x) (ht : t.data.toList = slashAll l) : isPathB t = true ∧ splitC (behind1 t) 47 = l ∧ normR t = (pathOf (keptR l), 0) := by
  have hpl : PL t.data.toList := by rw [ht]; exact slash_PL hp
  obtain ⟨r, hr⟩ : ∃ r, slashAll l = 47 :: r := by
    match l, hne with
    | x :: l, _ => exact ⟨_, rfl⟩
  have hz : 0 < t.size := by rw [← size_eq, ht, hr]; simp
  have hb : bt t 0 = 47 := by unfold bt; rw [ht, hr]; rfl
  have hst : pathStop t = t.size := hpl.stop 0 rfl (by omega)
  have hpath : isPathB t = true := by
    unfold isPathB
    rw [decide_eq_true hz, decide_eq_true hb, decide_eq_true hst]
    rfl
  have hs : splitC (behind1 t) 47 = l := split_slash hne hf (behind1 t) (by
    unfold behind1
    rw [ext_all, ht, hr]
    rfl)
  refine ⟨hpath, hs, ?_⟩
  rw [normR_segs hpath]
  unfold normSegs
  rw [hpl.is_plain, hs]
theorem keep_right : ∀ (l kept : List ByteArray), (∀ x ∈ l, isDots x = false) → keepAll kept l = kept ++ l
  | [], kept, _ => by simp [keepAll]
  | x :: l, kept, h => by
    have hx := h x (by simp)
    simp only [isDots, Bool.or_eq_false_iff, decide_eq_false_iff_not] at hx
    have e : keepAll kept (x :: l) = keepAll (keepOne kept x) l := rfl
    rw [e, keep_right l _ (fun y hy => h y (by simp [hy]))]
    unfold keepOne
    rw [if_neg hx.2, if_neg hx.1]
    simp
theorem keptR_same {l : List ByteArray} (hne : l ≠ []) (h : ∀ x ∈ l, isDots x = false) : keptR l = l := by
  have e := List.dropLast_concat_getLast hne
  have hd : lastDots false l = false := by
    rw [← e, lastDots_snoc]
    exact h _ (List.getLast_mem hne)
  unfold keptR
  rw [if_neg (by rw [hd]; simp), keep_right l [] h]
  rfl
theorem keepAll_app (kept a b : List ByteArray) : keepAll kept (a ++ b) = keepAll (keepAll kept a) b := by simp [keepAll]
end Go.Proofs.YtjlnbjlhlglneaaDoor
