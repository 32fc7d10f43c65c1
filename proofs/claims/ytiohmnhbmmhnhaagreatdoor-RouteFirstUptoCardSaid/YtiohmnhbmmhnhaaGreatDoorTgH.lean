/-
  Plain words on hosts: addresses, names, ports.
-/
import Derived.Test.YtiohmnhbmmhnhaaGreatDoorTgC
import Derived.Lib.ItoaNum
namespace Go.Proofs.YtiohmnhbmmhnhaaGreatDoor

/-- A number of at most 255 in decimal digits, without noughts ahead. -/
def itoaT (n : Int) : ByteArray := ⟨(Lib.itoa n).toArray⟩
def byteNum (s : ByteArray) : Bool := decide ((numR s 255 10).2 = 0) && decide (itoaT (numR s 255 10).1 = s)
def quad (s : ByteArray) : Bool := (splitC s 46).all byteNum && decide ((splitC s 46).length = 4)
def hexGroup (g : ByteArray) : Bool := decide (0 < g.size) && (decide (g.size ≤ 4) && allB isHexB g)
/-- How many groups a row has; -1: it is none. -/
def groupsL (last : Bool) : List ByteArray → Int
  | [] => 0
  | g :: r => if hexGroup g = true then (if groupsL last r < 0 then -1 else 1 + groupsL last r) else if last = true ∧ r = [] ∧ quad g = true then 2 else -1
def groupsR (s : ByteArray) (last : Bool) : Int := if s.size = 0 then 0 else groupsL last (splitC s 58)
theorem groupsL_range (last : Bool) : ∀ l : List ByteArray, -1 ≤ groupsL last l ∧ groupsL last l ≤ l.length + 1
  | [] => by simp [groupsL]
  | g :: r => by
    have := groupsL_range last r
    unfold groupsL
    rw [List.length_cons]
    split
    · split <;> omega
    · split <;> omega
theorem groupsR_range (s : ByteArray) (last : Bool) : -1 ≤ groupsR s last ∧ groupsR s last ≤ s.size + 2 := by
  unfold groupsR
  split
  · omega
  · have := groupsL_range last (splitC s 58)
    have := splitC_len s 58
    omega
/-- The first n groups are read; what is left of the row. -/
def GroupsAt (l : List ByteArray) (k : Nat) : Prop := ∀ g ∈ l.take k, hexGroup g = true
theorem GroupsAt.zero (l : List ByteArray) : GroupsAt l 0 := fun g h => by simp at h
theorem groupsL_app {last : Bool} : ∀ (l m : List ByteArray), (∀ g ∈ l, hexGroup g = true) → groupsL last (l ++ m) = if groupsL last m < 0 then -1 else l.length + groupsL last m
  | [], m, _ => by
    have := (groupsL_range last m).1
    split <;> simp <;> omega
  | g :: l, m, h => by
    have ih := groupsL_app (last := last) l m fun x hx => h x (List.mem_cons_of_mem _ hx)
    have hg := h g (by simp)
    rw [List.cons_append, groupsL, if_pos hg, ih, List.length_cons]
    split
    · rw [if_pos (by omega)]
    · rw [if_neg (by omega)]; omega
section
variable {last : Bool} {l : List ByteArray} {k : Nat} {g : ByteArray}
theorem GroupsAt.succ (h : GroupsAt l k) (hk : l[k]? = some g) (hg : hexGroup g = true) : GroupsAt l (k + 1) := fun x hx => by
  obtain ⟨hlt, rfl⟩ := List.getElem?_eq_some_iff.1 hk
  rw [List.take_succ_eq_append_getElem hlt] at hx
  rcases List.mem_append.1 hx with hx | hx
  · exact h x hx
  · obtain rfl : x = l[k] := by simpa using hx
    exact hg
theorem GroupsAt.all (h : GroupsAt l l.length) : groupsL last l = l.length := by
  have := groupsL_app (last := last) l [] (by intro x hx; exact h x (by rw [List.take_length]; exact hx))
  rw [List.append_nil] at this
  rw [this]
  simp [groupsL]
theorem drop_get {α : Type} {l : List α} {k : Nat} {x : α} (hk : l[k]? = some x) : l.drop k = x :: l.drop (k + 1) := by
  obtain ⟨hlt, rfl⟩ := List.getElem?_eq_some_iff.1 hk
  exact List.drop_eq_getElem_cons hlt
theorem GroupsAt.bad (h : GroupsAt l k) (hk : l[k]? = some g) (hg : hexGroup g = false) (hq : last = false ∨ k + 1 < l.length ∨ quad g = false) : groupsL last l = -1 := by
  have e := groupsL_app (last := last) (l.take k) (l.drop k) h
  rw [List.take_append_drop, drop_get hk] at e
  have : groupsL last (g :: l.drop (k + 1)) = -1 := by
    rw [groupsL, if_neg (by rw [hg]; simp), if_neg]
    rintro ⟨h1, h2, h3⟩
    rcases hq with h | h | h
    · rw [h] at h1; cases h1
    · have := List.drop_eq_nil_iff.1 h2; omega
    · rw [h] at h3; cases h3
  rw [e, this, if_pos (by omega)]
theorem GroupsAt.quad (h : GroupsAt l k) (hk : l[k]? = some g) (hl : k + 1 = l.length) (hg : hexGroup g = false) (hq : quad g = true) : groupsL true l = k + 2 := by
  have e := groupsL_app (last := true) (l.take k) (l.drop k) h
  have hd : l.drop (k + 1) = [] := List.drop_eq_nil_iff.2 (by omega)
  rw [List.take_append_drop, drop_get hk] at e
  have : groupsL true (g :: l.drop (k + 1)) = 2 := by
    rw [groupsL, if_neg (by rw [hg]; simp), if_pos ⟨rfl, hd, hq⟩]
  rw [e, this, if_neg (by omega), List.length_take]
  omega
end
theorem allB_mem {P : Int → Bool} {s : ByteArray} (h : allB P s = true) {j : Nat} (hj : j < s.size) : P (bt s j) = true := allB_at h j hj
/-- A group with a point is none of hexadecimal digits; four numbers have points. -/
theorem dot_hex {g : ByteArray} (h : inB g 46 = true) : hexGroup g = false := by
  cases e : hexGroup g
  · rfl
  · simp only [hexGroup, Bool.and_eq_true] at e
    obtain ⟨_, _, e⟩ := e
    have : allB (fun b => !decide (b = 46)) g = true := allB_true fun j hj => by
      have := allB_mem e hj
      have hne : bt g j ≠ 46 := fun h => by rw [h] at this; exact absurd this (by decide)
      simpa using hne
    unfold inB at h
    rw [this] at h
    cases h
theorem dot_quad {g : ByteArray} (h : inB g 46 = false) : quad g = false := by
  rcases place_spec g 46 with ⟨hp, _⟩ | ⟨k, _, hk, hb, _⟩
  · unfold quad
    rw [splitC_miss hp]
    simp
  · unfold inB at h
    rw [allB_false hk (by simp [hb])] at h
    cases h

/-- The first place of '::'; the size if nowhere. -/
def gapAt (s : ByteArray) (i : Nat) : Bool := decide (bt s i = 58) && decide (bt s (i + 1) = 58)
def gap (s : ByteArray) : Nat := scan (fun i => !(decide (i + 1 < s.size) && gapAt s i)) 0 s.size
theorem gap_spec (s : ByteArray) : (gap s = s.size ∧ ∀ j, j + 1 < s.size → gapAt s j = false) ∨ (∃ k, gap s = k ∧ k + 1 < s.size ∧ gapAt s k = true ∧ ∀ j, j < k → gapAt s j = false) := by
  obtain ⟨_, h2, h3, h4⟩ := scan_spec (fun i => !(decide (i + 1 < s.size) && gapAt s i)) s.size 0
  change gap s ≤ _ at h2
  rw [Nat.zero_add] at *
  have nn : ∀ j, j < gap s → j + 1 < s.size → gapAt s j = false := fun j hj hs => by
    have := h3 j (by omega) hj
    rw [decide_eq_true hs] at this
    simpa using this
  by_cases e : gap s = s.size
  · exact .inl ⟨e, fun j hj => nn j (by omega) hj⟩
  · have := h4 (by show gap s < _; omega)
    change (!(decide (gap s + 1 < s.size) && gapAt s (gap s))) = false at this
    simp at this
    exact .inr ⟨gap s, rfl, this.1, this.2, fun j hj => nn j hj (by omega)⟩
theorem gap_at {s : ByteArray} {k : Nat} (hk : k + 1 < s.size) (h : gapAt s k = true) (hn : ∀ j, j < k → gapAt s j = false) : gap s = k :=
  scan_stop (fun j _ hj => by rw [hn j hj]; simp) (by omega) (by omega) (by rw [h]; simpa using hk)
theorem gap_none {s : ByteArray} (hn : ∀ j, j + 1 < s.size → gapAt s j = false) : gap s = s.size := by
  have := scan_all (P := fun i => !(decide (i + 1 < s.size) && gapAt s i)) (a := 0) (n := s.size) (fun j _ hj => by
    by_cases h : j + 1 < s.size
    · show (!(decide (j + 1 < s.size) && gapAt s j)) = true
      rw [hn j h]; simp
    · simp; omega)
  rwa [Nat.zero_add] at this
def isAddr (s : ByteArray) : Bool := if gap s < s.size then decide (0 ≤ groupsR (s.extract 0 (gap s)) false) && (decide (0 ≤ groupsR (s.extract (gap s + 2) s.size) true) && decide (groupsR (s.extract 0 (gap s)) false + groupsR (s.extract (gap s + 2) s.size) true ≤ 7)) else decide (groupsR s true = 8)
theorem isAddr_gap {s : ByteArray} {k : Nat} (hk : k < s.size) (h : gap s = k) : isAddr s = (decide (0 ≤ groupsR (s.extract 0 k) false) && (decide (0 ≤ groupsR (s.extract (k + 2) s.size) true) && decide (groupsR (s.extract 0 k) false + groupsR (s.extract (k + 2) s.size) true ≤ 7))) := by
  unfold isAddr
  rw [h, if_pos hk]
theorem isAddr_row {s : ByteArray} (h : gap s = s.size) : isAddr s = decide (groupsR s true = 8) := by
  unfold isAddr
  rw [if_neg (by omega)]
/-- What strings.Cut at '::' hands back. -/
theorem cut_gap (s : ByteArray) : (gap s = s.size ∧ Lib.indexB s ⟨#[58, 58]⟩ = -1) ∨ (∃ k, gap s = k ∧ k + 1 < s.size ∧ Lib.indexB s ⟨#[58, 58]⟩ = k) := by
  have occ : ∀ j, Lib.occAt s.data.toList [58, 58] j = (decide (j + 1 < s.size) && gapAt s j) := by
    intro j
    unfold Lib.occAt gapAt
    by_cases h1 : j + 1 < s.size
    · have hl : j + 1 < s.data.toList.length := by rw [size_eq]; exact h1
      rw [List.drop_eq_getElem_cons (by omega), List.drop_eq_getElem_cons (by omega), decide_eq_true h1, Bool.true_and]
      have e0 : bt s j = (s.data.toList[j].toNat : Int) := by
        unfold bt
        rw [List.getD_eq_getElem?_getD, List.getElem?_eq_getElem (by omega)]
        rfl
      have e1 : bt s (j + 1) = (s.data.toList[j + 1].toNat : Int) := by
        unfold bt
        rw [List.getD_eq_getElem?_getD, List.getElem?_eq_getElem (by omega)]
        rfl
      rw [e0, e1]
      generalize s.data.toList[j] = a
      generalize s.data.toList[j + 1] = b
      simp only [List.isPrefixOf, Bool.and_true]
      have key : ∀ x : UInt8, ((58 : UInt8) == x) = decide ((x.toNat : Int) = 58) := by
        intro x
        rw [Bool.eq_iff_iff]
        simp only [beq_iff_eq, decide_eq_true_eq]
        constructor
        · rintro rfl; rfl
        · intro h
          apply UInt8.toNat_inj.1
          show 58 = x.toNat
          omega
      rw [key, key]
    · rw [decide_eq_false h1, Bool.false_and]
      rcases e : s.data.toList.drop j with _ | ⟨x, _ | ⟨y, t⟩⟩
      · rfl
      · simp [List.isPrefixOf]
      · have : (s.data.toList.drop j).length = (x :: y :: t).length := by rw [e]
        rw [List.length_drop, size_eq] at this
        simp at this
        omega
  rcases gap_spec s with ⟨h, h2⟩ | ⟨k, h, hk, h3, h4⟩
  · refine .inl ⟨h, ?_⟩
    show Lib.index s.data.toList [58, 58] = -1
    refine Lib.index_none fun j _ => ?_
    rw [occ]
    by_cases hj : j + 1 < s.size
    · rw [h2 j hj]; simp
    · simp; omega
  · refine .inr ⟨k, h, hk, ?_⟩
    show Lib.index s.data.toList [58, 58] = k
    refine Lib.index_first (by rw [size_eq]; omega) ?_ ?_
    · rw [occ, h3]; simpa using hk
    · intro j hj
      rw [occ, h4 j hj]; simp

def isNameH (s : ByteArray) : Bool := decide (0 < s.size) && decide (hostStop s = s.size)
/-- An authority: host, port, error. -/
def authBad : ByteArray × Int × Int := (⟨#[]⟩, 0, 52)
def portR (host port : ByteArray) : ByteArray × Int × Int :=
  if 5 < port.size then authBad else if port.size = 0 then (lower host, -1, 0) else if (numR port 65535 10).2 = 0 then (lower host, (numR port 65535 10).1, 0) else authBad
def authR (s : ByteArray) : ByteArray × Int × Int :=
  if 0 < s.size ∧ bt s 0 = 91 then
    (if place s 93 < s.size then
      (if isAddr (s.extract 1 (place s 93)) = true then
        (if place s 93 + 1 = s.size then (lower s, -1, 0) else if bt s (place s 93 + 1) = 58 then portR (s.extract 0 (place s 93 + 1)) (s.extract (place s 93 + 2) s.size) else authBad)
      else authBad)
    else authBad)
  else if isNameH (cutW s 58).1 = true then portR (cutW s 58).1 (cutW s 58).2.1 else authBad
end Go.Proofs.YtiohmnhbmmhnhaaGreatDoor
