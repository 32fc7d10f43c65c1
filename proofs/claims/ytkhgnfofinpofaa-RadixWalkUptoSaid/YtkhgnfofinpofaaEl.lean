/-
  Plain words on lists in texts: quoted texts, elements, decimal numbers.
-/
import Derived.Test.YtkhgnfofinpofaaPlain2
namespace Go.Proofs.Ytkhgnfofinpofaa

theorem drop_at (s : ByteArray) {i : Nat} (h : i < s.size) : ∃ b : UInt8, s.data.toList.drop i = b :: s.data.toList.drop (i + 1) ∧ (b.toNat : Int) = bt s i := by
  have h' : i < s.data.toList.length := by rw [size_eq]; exact h
  refine ⟨s.data.toList[i], List.drop_eq_getElem_cons h', ?_⟩
  unfold bt
  rw [List.getD_eq_getElem?_getD, List.getElem?_eq_getElem h']
  rfl
theorem drop_end (s : ByteArray) {i : Nat} (h : s.size ≤ i) : s.data.toList.drop i = [] := List.drop_of_length_le (by rw [size_eq]; exact h)
theorem ba_eta (s : ByteArray) : (⟨s.data.toList.toArray⟩ : ByteArray) = s := bytes_ext rfl
theorem ext_list (s : ByteArray) (a b : Nat) : (s.extract a b).data.toList = (s.data.toList.drop a).take (b - a) := Lib.extract_data s a b
theorem ext_succ (s : ByteArray) {a i : Nat} {b : UInt8} (ha : a ≤ i) (hi : i < s.size) (hb : s.data.toList.drop i = b :: s.data.toList.drop (i + 1)) : (s.extract a (i + 1)).data.toList = (s.extract a i).data.toList ++ [b] := by
  rw [ext_list, ext_list, show i + 1 - a = (i - a) + 1 from by omega]
  have h' : i - a < (s.data.toList.drop a).length := by rw [List.length_drop, size_eq]; omega
  rw [List.take_succ_eq_append_getElem h']
  congr 2
  rw [List.getElem_drop]
  have h2 : i < s.data.toList.length := by rw [size_eq]; exact hi
  have := List.drop_eq_getElem_cons h2
  rw [this] at hb
  injection hb with hb _
  rw [← hb]
  congr 1
  omega
theorem ext_same (s : ByteArray) (a : Nat) : (s.extract a a).data.toList = [] := by rw [ext_list, Nat.sub_self]; rfl

/-- How many bytes lead to the end of a quoted text, the closing sign with them. -/
def quRun : List UInt8 → Bool → Option Nat
  | [], _ => none
  | c :: r, true => if inside (c.toNat : Int) = true then (quRun r false).map (· + 1) else none
  | c :: r, false => if (c.toNat : Int) = 34 then some 1 else if (c.toNat : Int) = 92 then (quRun r true).map (· + 1) else if inside (c.toNat : Int) = true then (quRun r false).map (· + 1) else none
theorem quRun_le : ∀ (l : List UInt8) (e : Bool) (k : Nat), quRun l e = some k → 1 ≤ k ∧ k ≤ l.length := by
  intro l
  induction l with
  | nil => intro e k h; simp [quRun] at h
  | cons c r ih =>
    intro e k h
    cases e
    · simp only [quRun] at h
      split at h
      · injection h with h
        subst h
        simp
      · split at h
        · obtain ⟨j, hj, rfl⟩ := Option.map_eq_some_iff.1 h
          have := ih _ _ hj
          simp; omega
        · split at h
          · obtain ⟨j, hj, rfl⟩ := Option.map_eq_some_iff.1 h
            have := ih _ _ hj
            simp; omega
          · cases h
    · simp only [quRun] at h
      split at h
      · obtain ⟨j, hj, rfl⟩ := Option.map_eq_some_iff.1 h
        have := ih _ _ hj
        simp; omega
      · cases h
/-- How many bytes the quoted text has that begins a text; 0: there is none. -/
def quLen (s : ByteArray) : Nat := match quRun (s.data.toList.drop 1) false with
  | none => 0
  | some k => k + 1
theorem quLen_none {s : ByteArray} (h : quRun (s.data.toList.drop 1) false = none) : quLen s = 0 := by unfold quLen; rw [h]
theorem quLen_some {s : ByteArray} {k : Nat} (h : quRun (s.data.toList.drop 1) false = some k) : quLen s = k + 1 := by unfold quLen; rw [h]
theorem quLen_le (s : ByteArray) : quLen s ≤ s.size ∧ (0 < quLen s → 2 ≤ quLen s) := by
  cases h : quRun (s.data.toList.drop 1) false with
  | none => rw [quLen_none h]; omega
  | some k =>
    have := quRun_le _ _ _ h
    rw [quLen_some h]
    rw [List.length_drop, size_eq] at this
    omega
/-- What is known of a quoted text read up to place i. -/
def QuAt (s : ByteArray) (i : Nat) : Prop := quLen s = match quRun (s.data.toList.drop i) false with
  | none => 0
  | some k => k + i
theorem QuAt.start (s : ByteArray) : QuAt s 1 := rfl
section
variable {s : ByteArray} {i : Nat} (h : QuAt s i)
include h
theorem QuAt.end_ (hi : s.size ≤ i) : quLen s = 0 := by
  unfold QuAt at h
  rw [h, drop_end s hi]
  rfl
theorem QuAt.quote (hi : i < s.size) (hb : bt s i = 34) : quLen s = i + 1 := by
  obtain ⟨b, hd, he⟩ := drop_at s hi
  unfold QuAt at h
  rw [h, hd]
  simp only [quRun]
  rw [if_pos (by omega)]
  show 1 + i = i + 1
  omega
theorem QuAt.esc_end (hi : i + 1 = s.size) (hb : bt s i = 92) : quLen s = 0 := by
  obtain ⟨b, hd, he⟩ := drop_at s (i := i) (by omega)
  unfold QuAt at h
  rw [h, hd, drop_end s (by omega)]
  simp only [quRun]
  rw [if_neg (by omega), if_pos (by omega)]
  rfl
theorem QuAt.esc_bad (hi : i + 1 < s.size) (hb : bt s i = 92) (hin : inside (bt s (i + 1)) = false) : quLen s = 0 := by
  obtain ⟨b, hd, he⟩ := drop_at s (i := i) (by omega)
  obtain ⟨b', hd', he'⟩ := drop_at s hi
  unfold QuAt at h
  rw [h, hd, hd']
  simp only [quRun]
  rw [if_neg (by omega), if_pos (by omega), he', hin]
  rfl
theorem QuAt.esc_on (hi : i + 1 < s.size) (hb : bt s i = 92) (hin : inside (bt s (i + 1)) = true) : QuAt s (i + 2) := by
  obtain ⟨b, hd, he⟩ := drop_at s (i := i) (by omega)
  obtain ⟨b', hd', he'⟩ := drop_at s hi
  unfold QuAt at *
  rw [h, hd, hd']
  simp only [quRun]
  rw [if_neg (by omega), if_pos (by omega), he', hin]
  cases quRun (s.data.toList.drop (i + 1 + 1)) false with
  | none => rfl
  | some k => show k + 1 + 1 + i = k + (i + 2); omega
theorem QuAt.bad (hi : i < s.size) (h1 : bt s i ≠ 34) (h2 : bt s i ≠ 92) (hin : inside (bt s i) = false) : quLen s = 0 := by
  obtain ⟨b, hd, he⟩ := drop_at s hi
  unfold QuAt at h
  rw [h, hd]
  simp only [quRun]
  rw [if_neg (by omega), if_neg (by omega), he, hin]
  rfl
theorem QuAt.on (hi : i < s.size) (h1 : bt s i ≠ 34) (h2 : bt s i ≠ 92) (hin : inside (bt s i) = true) : QuAt s (i + 1) := by
  obtain ⟨b, hd, he⟩ := drop_at s hi
  unfold QuAt at *
  rw [h, hd]
  simp only [quRun]
  rw [if_neg (by omega), if_neg (by omega), he, hin]
  cases quRun (s.data.toList.drop (i + 1)) false with
  | none => rfl
  | some k => show k + 1 + i = k + (i + 1); omega
end

/-- The pieces of a list without the blanks around, the empty ones left out. -/
def cleanL (l : List ByteArray) : List ByteArray := (l.map trim).filter fun x => !decide (x.size = 0)
theorem cleanL_append (l m : List ByteArray) : cleanL (l ++ m) = cleanL l ++ cleanL m := by simp [cleanL]
theorem cleanL_one (x : ByteArray) : cleanL [x] = if (trim x).size = 0 then [] else [trim x] := by
  unfold cleanL
  by_cases h : (trim x).size = 0
  · rw [if_pos h]
    simp only [List.map_cons, List.map_nil]
    rw [List.filter_cons_of_neg (by simp [h])]
    rfl
  · rw [if_neg h]
    simp only [List.map_cons, List.map_nil]
    rw [List.filter_cons_of_pos (by simp [h])]
    rfl
/-- A list's state while it is read: outside quotes, within, behind a backslash; the piece so far, the pieces before it. -/
inductive El where
  | out (cur : List UInt8) (acc : List ByteArray)
  | quo (cur : List UInt8) (acc : List ByteArray)
  | esc (cur : List UInt8) (acc : List ByteArray)
  | bad
def El.step : El → UInt8 → El
  | .bad, _ => .bad
  | .out cur acc, c => if (c.toNat : Int) = 34 then .quo (cur ++ [c]) acc else if (c.toNat : Int) = 44 then .out [] (acc ++ [⟨cur.toArray⟩]) else .out (cur ++ [c]) acc
  | .quo cur acc, c => if (c.toNat : Int) = 34 then .out (cur ++ [c]) acc else if (c.toNat : Int) = 92 then .esc (cur ++ [c]) acc else if inside (c.toNat : Int) = true then .quo (cur ++ [c]) acc else .bad
  | .esc cur acc, c => if inside (c.toNat : Int) = true then .quo (cur ++ [c]) acc else .bad
def El.fin : El → Option (List ByteArray)
  | .out cur acc => some (cleanL (acc ++ [⟨cur.toArray⟩]))
  | _ => none
def elRun (l : List UInt8) (e : El) : Option (List ByteArray) := (l.foldl El.step e).fin
/-- The elements of a text; none: it is no list. -/
def elems (s : ByteArray) : Option (List ByteArray) := elRun s.data.toList (.out [] [])
theorem elRun_nil (e : El) : elRun [] e = e.fin := rfl
theorem elRun_cons (c : UInt8) (l : List UInt8) (e : El) : elRun (c :: l) e = elRun l (e.step c) := rfl
theorem fold_bad (l : List UInt8) : l.foldl El.step .bad = .bad := by
  induction l with
  | nil => rfl
  | cons c l ih => rw [List.foldl_cons]; exact ih
theorem elRun_bad (l : List UInt8) : elRun l .bad = none := by unfold elRun; rw [fold_bad]; rfl
theorem elRun_quo (l : List UInt8) : ∀ (cur : List UInt8) (acc : List ByteArray),
    (elRun l (.quo cur acc) = match quRun l false with | none => none | some k => elRun (l.drop k) (.out (cur ++ l.take k) acc)) ∧
    (elRun l (.esc cur acc) = match quRun l true with | none => none | some k => elRun (l.drop k) (.out (cur ++ l.take k) acc)) := by
  induction l with
  | nil => intro cur acc; exact ⟨rfl, rfl⟩
  | cons c l ih =>
    intro cur acc
    obtain ⟨ih1, ih2⟩ := ih (cur ++ [c]) acc
    constructor
    · rw [elRun_cons]
      simp only [El.step, quRun]
      by_cases h1 : (c.toNat : Int) = 34
      · rw [if_pos h1, if_pos h1]
        rfl
      · rw [if_neg h1, if_neg h1]
        by_cases h2 : (c.toNat : Int) = 92
        · rw [if_pos h2, if_pos h2, ih2]
          cases quRun l true with
          | none => rfl
          | some k => simp
        · rw [if_neg h2, if_neg h2]
          by_cases h3 : inside (c.toNat : Int) = true
          · rw [if_pos h3, if_pos h3, ih1]
            cases quRun l false with
            | none => rfl
            | some k => simp
          · rw [if_neg h3, if_neg h3, elRun_bad]
    · rw [elRun_cons]
      simp only [El.step, quRun]
      by_cases h3 : inside (c.toNat : Int) = true
      · rw [if_pos h3, if_pos h3, ih1]
        cases quRun l false with
        | none => rfl
        | some k => simp
      · rw [if_neg h3, if_neg h3, elRun_bad]
/-- A list read up to place i, the piece begun at a. -/
def ElAt (s : ByteArray) (a i : Nat) (acc : List ByteArray) : Prop := elRun (s.data.toList.drop i) (.out (s.extract a i).data.toList acc) = elems s
theorem ElAt.start (s : ByteArray) : ElAt s 0 0 [] := by
  unfold ElAt elems
  rw [ext_same]
  rfl
section
variable {s : ByteArray} {a i : Nat} {acc : List ByteArray} (h : ElAt s a i acc)
include h
theorem ElAt.end_ (hi : i = s.size) : elems s = some (cleanL (acc ++ [s.extract a s.size])) := by
  subst hi
  unfold ElAt at h
  rw [← h, drop_end s (Nat.le_refl _), elRun_nil]
  simp only [El.fin, ba_eta]
theorem ElAt.comma (_ha : a ≤ i) (hi : i < s.size) (hb : bt s i = 44) : ElAt s (i + 1) (i + 1) (acc ++ [s.extract a i]) := by
  obtain ⟨b, hd, he⟩ := drop_at s hi
  unfold ElAt at *
  rw [← h, hd, elRun_cons]
  simp only [El.step]
  rw [if_neg (by omega), if_pos (by omega), ext_same, ba_eta]
theorem ElAt.on (ha : a ≤ i) (hi : i < s.size) (h1 : bt s i ≠ 34) (h2 : bt s i ≠ 44) : ElAt s a (i + 1) acc := by
  obtain ⟨b, hd, he⟩ := drop_at s hi
  have hx := ext_succ s ha hi hd
  unfold ElAt at *
  rw [← h, hd, elRun_cons]
  simp only [El.step]
  rw [if_neg (by omega), if_neg (by omega), hx]
theorem ElAt.quo_none (_ha : a ≤ i) (hi : i < s.size) (hb : bt s i = 34) (hq : quLen (s.extract i s.size) = 0) : elems s = none := by
  obtain ⟨b, hd, he⟩ := drop_at s hi
  have hr : quRun (s.data.toList.drop (i + 1)) false = none := by
    cases e : quRun (s.data.toList.drop (i + 1)) false with
    | none => rfl
    | some k =>
      have := quLen_some (s := s.extract i s.size) (k := k) (by rw [ext_all, List.drop_drop]; exact e)
      omega
  unfold ElAt at h
  rw [← h, hd, elRun_cons]
  simp only [El.step]
  rw [if_pos (by omega), (elRun_quo _ _ _).1, hr]
theorem ElAt.quo_on (ha : a ≤ i) (hi : i < s.size) (hb : bt s i = 34) (hq : 0 < quLen (s.extract i s.size)) : ElAt s a (i + quLen (s.extract i s.size)) acc := by
  obtain ⟨b, hd, he⟩ := drop_at s hi
  cases e : quRun (s.data.toList.drop (i + 1)) false with
  | none =>
    have := quLen_none (s := s.extract i s.size) (by rw [ext_all, List.drop_drop]; exact e)
    omega
  | some k =>
    have hk := quRun_le _ _ _ e
    rw [List.length_drop, size_eq] at hk
    have hl := quLen_some (s := s.extract i s.size) (k := k) (by rw [ext_all, List.drop_drop]; exact e)
    rw [hl]
    unfold ElAt at *
    rw [← h, hd, elRun_cons]
    simp only [El.step]
    rw [if_pos (by omega), (elRun_quo _ _ _).1, e]
    simp only
    rw [List.drop_drop]
    have hx : (s.extract a (i + (k + 1))).data.toList = (s.extract a i).data.toList ++ [b] ++ (s.data.toList.drop (i + 1)).take k := by
      rw [ext_list, ext_list, show i + (k + 1) - a = (i - a) + (k + 1) from by omega, List.take_add, List.drop_drop, show a + (i - a) = i from by omega, hd, List.take_succ_cons, List.append_assoc]
      rfl
    rw [hx]
    congr 2
    omega
end
/-- How much an element list holds. -/
theorem clean_size (l : List ByteArray) : ((cleanL l).map (·.size)).sum ≤ (l.map (·.size)).sum := by
  induction l with
  | nil => exact Nat.le_refl _
  | cons x l ih =>
    rw [show x :: l = [x] ++ l from rfl, cleanL_append, List.map_append, List.sum_append, List.map_append, List.sum_append]
    refine Nat.add_le_add ?_ ih
    rw [cleanL_one]
    have := trim_size x
    split <;> simp <;> omega
def Full (l : List ByteArray) : Prop := ∀ x ∈ l, 0 < x.size
theorem cleanL_full (l : List ByteArray) : Full (cleanL l) := fun x hx => by
  unfold cleanL at hx
  have h : decide (x.size = 0) = false := by simpa only [Bool.not_eq_true'] using (List.mem_filter.1 hx).2
  have := of_decide_eq_false h
  omega
theorem Full.le {l : List ByteArray} (h : Full l) : l.length ≤ (l.map (·.size)).sum := by
  induction l with
  | nil => exact Nat.le_refl _
  | cons x l ih =>
    have h1 := h x (by simp)
    have h2 := ih (fun y hy => h y (by simp [hy]))
    simp only [List.length_cons, List.map_cons, List.sum_cons]
    omega
/-- Each byte of a text goes into one piece at most. -/
def El.weight : El → Nat
  | .out cur acc => cur.length + (acc.map (·.size)).sum
  | .quo cur acc => cur.length + (acc.map (·.size)).sum
  | .esc cur acc => cur.length + (acc.map (·.size)).sum
  | .bad => 0
theorem El.step_weight (e : El) (c : UInt8) : (e.step c).weight ≤ e.weight + 1 := by
  have hm : ∀ l : List UInt8, (⟨l.toArray⟩ : ByteArray).size = l.length := fun l => by rw [← size_eq]
  cases e with
  | bad => exact Nat.zero_le _
  | out cur acc =>
    simp only [El.step]
    split
    · simp only [El.weight, List.length_append, List.length_cons, List.length_nil]; omega
    · split
      · simp only [El.weight, List.map_append, List.sum_append, List.map_cons, List.map_nil, List.sum_cons, List.sum_nil, hm, List.length_nil]; omega
      · simp only [El.weight, List.length_append, List.length_cons, List.length_nil]; omega
  | quo cur acc =>
    simp only [El.step]
    split
    · simp only [El.weight, List.length_append, List.length_cons, List.length_nil]; omega
    · split
      · simp only [El.weight, List.length_append, List.length_cons, List.length_nil]; omega
      · split
        · simp only [El.weight, List.length_append, List.length_cons, List.length_nil]; omega
        · exact Nat.zero_le _
  | esc cur acc =>
    simp only [El.step]
    split
    · simp only [El.weight, List.length_append, List.length_cons, List.length_nil]; omega
    · exact Nat.zero_le _
theorem elRun_weight (l : List UInt8) : ∀ (e : El) (x : List ByteArray), elRun l e = some x → (x.map (·.size)).sum ≤ e.weight + l.length := by
  induction l with
  | nil =>
    intro e x h
    cases e with
    | out cur acc =>
      rw [elRun_nil] at h
      simp only [El.fin, Option.some.injEq] at h
      subst h
      refine Nat.le_trans (clean_size _) ?_
      have hm : ∀ l : List UInt8, (⟨l.toArray⟩ : ByteArray).size = l.length := fun l => by rw [← size_eq]
      simp only [El.weight, List.map_append, List.sum_append, List.map_cons, List.map_nil, List.sum_cons, List.sum_nil, hm, List.length_nil]
      omega
    | quo cur acc => cases h
    | esc cur acc => cases h
    | bad => cases h
  | cons c l ih =>
    intro e x h
    rw [elRun_cons] at h
    have h1 := ih _ _ h
    have h2 := e.step_weight c
    rw [List.length_cons]
    omega
theorem elRun_full (l : List UInt8) (e : El) (x : List ByteArray) (h : elRun l e = some x) : Full x := by
  unfold elRun at h
  generalize l.foldl El.step e = e' at h
  cases e' with
  | out cur acc =>
    simp only [El.fin, Option.some.injEq] at h
    subst h
    exact cleanL_full _
  | quo cur acc => cases h
  | esc cur acc => cases h
  | bad => cases h
theorem elems_weight {s : ByteArray} {x : List ByteArray} (h : elems s = some x) : (x.map (·.size)).sum ≤ s.size ∧ Full x ∧ x.length ≤ s.size := by
  have h1 := elRun_weight _ _ _ h
  have h2 := elRun_full _ _ _ h
  have h3 := h2.le
  simp only [El.weight, List.map_nil, List.sum_nil, List.length_nil, Nat.zero_add, size_eq] at h1
  exact ⟨h1, h2, by omega⟩
theorem size_le_sum {l : List ByteArray} {x : ByteArray} (h : x ∈ l) : x.size ≤ (l.map (·.size)).sum := by
  induction l with
  | nil => cases h
  | cons y l ih =>
    simp only [List.map_cons, List.sum_cons]
    rcases List.mem_cons.1 h with rfl | h
    · omega
    · have := ih h
      omega

/-- The elements of several values, one behind the other. -/
def elemsAll : List ByteArray → Option (List ByteArray)
  | [] => some []
  | v :: vs => match elems v with
    | none => none
    | some x => match elemsAll vs with
      | none => none
      | some y => some (x ++ y)
theorem elemsAll_weight : ∀ (vs : List ByteArray) (x : List ByteArray), elemsAll vs = some x → (x.map (·.size)).sum ≤ (vs.map (·.size)).sum ∧ Full x
  | [], x, h => by
    simp only [elemsAll, Option.some.injEq] at h
    subst h
    exact ⟨Nat.le_refl _, fun x hx => by cases hx⟩
  | v :: vs, x, h => by
    simp only [elemsAll] at h
    split at h
    · cases h
    · rename_i a ha
      split at h
      · cases h
      · rename_i b hb
        injection h with h
        subst h
        have h1 := elems_weight ha
        have h2 := elemsAll_weight vs b hb
        refine ⟨by simp only [List.map_append, List.sum_append, List.map_cons, List.sum_cons]; omega, fun y hy => ?_⟩
        rcases List.mem_append.1 hy with hy | hy
        · exact h1.2.1 y hy
        · exact h2.2 y hy
/-- Read so far: the elements of the first k values. -/
theorem elemsAll_snoc (vs : List ByteArray) (v : ByteArray) : elemsAll (vs ++ [v]) = match elemsAll vs with
    | none => none
    | some x => match elems v with
      | none => none
      | some y => some (x ++ y) := by
  induction vs with
  | nil =>
    simp only [List.nil_append, elemsAll]
    cases elems v with
    | none => rfl
    | some y => simp
  | cons u vs ih =>
    simp only [List.cons_append, elemsAll, ih]
    cases elems u with
    | none => rfl
    | some a =>
      simp only
      cases elemsAll vs with
      | none => rfl
      | some b =>
        simp only
        cases elems v with
        | none => rfl
        | some y => simp
theorem elemsAll_bad {vs : List ByteArray} {k : Nat} {v : ByteArray} (hk : vs[k]? = some v) (he : elems v = none) : elemsAll vs = none := by
  induction vs generalizing k with
  | nil => simp at hk
  | cons u vs ih =>
    simp only [elemsAll]
    cases k with
    | zero =>
      simp at hk
      subst hk
      rw [he]
    | succ k =>
      have := ih (by simpa using hk)
      cases elems u with
      | none => rfl
      | some a => simp only [this]
end Go.Proofs.Ytkhgnfofinpofaa
