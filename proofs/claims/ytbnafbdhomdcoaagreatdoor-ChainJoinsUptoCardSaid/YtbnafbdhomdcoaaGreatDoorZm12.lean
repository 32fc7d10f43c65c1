/-
  TgH, TgT, Print, Qu, without what the claim does not reach.
-/
import Derived.Test.YtbnafbdhomdcoaaGreatDoorZm11
import Derived.Lib.ItoaNum
import Derived.Test.YtbnafbdhomdcoaaGreatDoorZm5
import Derived.Test.YtbnafbdhomdcoaaGreatDoorZm4
import Derived.Test.YtbnafbdhomdcoaaGreatDoorZPlain
namespace Go.Proofs.YtbnafbdhomdcoaaGreatDoor.T5
def itoaT (n : Int) : ByteArray := ⟨(Lib.itoa n).toArray⟩
def byteNum (s : ByteArray) : Bool := decide ((numR s 255 10).2 = 0) && decide (itoaT (numR s 255 10).1 = s)
def quad (s : ByteArray) : Bool := (splitC s 46).all byteNum && decide ((splitC s 46).length = 4)
def hexGroup (g : ByteArray) : Bool := decide (0 < g.size) && (decide (g.size ≤ 4) && allB isHexB g)
def groupsL (last : Bool) : List ByteArray → Int
 | [] => 0
 | g :: r => if hexGroup g = true then (if groupsL last r < 0 then -1 else 1 + groupsL last r) else if last = true ∧ r = [] ∧ quad g = true then 2 else -1
def groupsR (s : ByteArray) (last : Bool) : Int := if s.size = 0 then 0 else groupsL last (splitC s 58)
theorem groupsL_range (last : Bool) : ∀ l : List ByteArray, -1 ≤ groupsL last l ∧ groupsL last l ≤ l.length + 1
 | [] => by simp [groupsL]
 | g :: r => by
  have := groupsL_range last r
  unfold groupsL
  rw [List.length_cons]
  split
  ·split <;> omega
  ·split <;> omega
theorem groupsR_range (s : ByteArray) (last : Bool) : -1 ≤ groupsR s last ∧ groupsR s last ≤ s.size + 2 := by
 unfold groupsR
 split
 ·omega
 ·have := groupsL_range last (splitC s 58)
  have := splitC_len s 58
  omega
def GroupsAt (l : List ByteArray) (k : Nat) : Prop := ∀ g ∈ l.take k, hexGroup g = true
theorem GroupsAt.zero (l : List ByteArray) : GroupsAt l 0 := fun g h => by simp at h
theorem groupsL_app {last : Bool} : ∀ (l m : List ByteArray), (∀ g ∈ l, hexGroup g = true) → groupsL last (l ++ m) = if groupsL last m < 0 then -1 else l.length + groupsL last m
 | [], m, _ => by
  have := (groupsL_range last m).1
  split <;> simp <;> omega
 | g :: l, m, h => by
  have ih := groupsL_app (last := last) l m fun x hx => h x (List.mem_cons_of_mem _ hx)
  have hg := h g (by simp)
  rw [List.cons_append, groupsL, if_pos hg, ih, List.length_cons]
  split
  ·rw [if_pos (by omega)]
  ·rw [if_neg (by omega)]; omega
section
variable {last : Bool} {l : List ByteArray} {k : Nat} {g : ByteArray}
theorem GroupsAt.succ (h : GroupsAt l k) (hk : l[k]? = some g) (hg : hexGroup g = true) : GroupsAt l (k + 1) := fun x hx => by
 obtain ⟨hlt, rfl⟩ := List.getElem?_eq_some_iff.1 hk
 rw [List.take_succ_eq_append_getElem hlt] at hx
 rcases List.mem_append.1 hx with hx | hx
 ·exact h x hx
 ·obtain rfl : x = l[k] := by simpa using hx
  exact hg
theorem GroupsAt.all (h : GroupsAt l l.length) : groupsL last l = l.length := by
 have := groupsL_app (last := last) l [] (by intro x hx; exact h x (by rw [List.take_length]; exact hx))
 rw [List.append_nil] at this
 rw [this]
 simp [groupsL]
theorem drop_get {α : Type} {l : List α} {k : Nat} {x : α} (hk : l[k]? = some x) : l.drop k = x :: l.drop (k + 1) := by
 obtain ⟨hlt, rfl⟩ := List.getElem?_eq_some_iff.1 hk
 exact List.drop_eq_getElem_cons hlt
theorem GroupsAt.bad (h : GroupsAt l k) (hk : l[k]? = some g) (hg : hexGroup g = false) (hq : last = false ∨ k + 1 < l.length ∨ quad g = false) : groupsL last l = -1 := by
 have e := groupsL_app (last := last) (l.take k) (l.drop k) h
 rw [List.take_append_drop, drop_get hk] at e
 have : groupsL last (g :: l.drop (k + 1)) = -1 := by
  rw [groupsL, if_neg (by rw [hg]; simp), if_neg]
  rintro ⟨h1, h2, h3⟩
  rcases hq with h | h | h
  ·rw [h] at h1; cases h1
  ·have := List.drop_eq_nil_iff.1 h2; omega
  ·rw [h] at h3; cases h3
 rw [e, this, if_pos (by omega)]
theorem GroupsAt.quad (h : GroupsAt l k) (hk : l[k]? = some g) (hl : k + 1 = l.length) (hg : hexGroup g = false) (hq : quad g = true) : groupsL true l = k + 2 := by
 have e := groupsL_app (last := true) (l.take k) (l.drop k) h
 have hd : l.drop (k + 1) = [] := List.drop_eq_nil_iff.2 (by omega)
 rw [List.take_append_drop, drop_get hk] at e
 have : groupsL true (g :: l.drop (k + 1)) = 2 := by
  rw [groupsL, if_neg (by rw [hg]; simp), if_pos ⟨rfl, hd, hq⟩]
 rw [e, this, if_neg (by omega), List.length_take]
 omega
end
theorem allB_mem {P : Int → Bool} {s : ByteArray} (h : allB P s = true) {j : Nat} (hj : j < s.size) : P (bt s j) = true := allB_at h j hj
theorem dot_hex {g : ByteArray} (h : inB g 46 = true) : hexGroup g = false := by
 cases e : hexGroup g
 ·rfl
 ·simp only [hexGroup, Bool.and_eq_true] at e
  obtain ⟨_, _, e⟩ := e
  have : allB (fun b => !decide (b = 46)) g = true := allB_true fun j hj => by
   have := allB_mem e hj
   have hne : bt g j ≠ 46 := fun h => by rw [h] at this; exact absurd this (by decide)
   simpa using hne
  unfold inB at h
  rw [this] at h
  cases h
theorem dot_quad {g : ByteArray} (h : inB g 46 = false) : quad g = false := by
 rcases place_spec g 46 with ⟨hp, _⟩ | ⟨k, _, hk, hb, _⟩
 ·unfold quad
  rw [splitC_miss hp]
  simp
 ·unfold inB at h
  rw [allB_false hk (by simp [hb])] at h
  cases h
def gapAt (s : ByteArray) (i : Nat) : Bool := decide (bt s i = 58) && decide (bt s (i + 1) = 58)
def gap (s : ByteArray) : Nat := scan (fun i => !(decide (i + 1 < s.size) && gapAt s i)) 0 s.size
theorem gap_spec (s : ByteArray) : (gap s = s.size ∧ ∀ j, j + 1 < s.size → gapAt s j = false) ∨ (∃ k, gap s = k ∧ k + 1 < s.size ∧ gapAt s k = true ∧ ∀ j, j < k → gapAt s j = false) := by
 obtain ⟨_, h2, h3, h4⟩ := scan_spec (fun i => !(decide (i + 1 < s.size) && gapAt s i)) s.size 0
 change gap s ≤ _ at h2
 rw [Nat.zero_add] at *
 have nn : ∀ j, j < gap s → j + 1 < s.size → gapAt s j = false := fun j hj hs => by
  have := h3 j (by omega) hj
  rw [decide_eq_true hs] at this
  simpa using this
 by_cases e : gap s = s.size
 ·exact .inl ⟨e, fun j hj => nn j (by omega) hj⟩
 ·have := h4 (by show gap s < _; omega)
  change (!(decide (gap s + 1 < s.size) && gapAt s (gap s))) = false at this
  simp at this
  exact .inr ⟨gap s, rfl, this.1, this.2, fun j hj => nn j hj (by omega)⟩
def isAddr (s : ByteArray) : Bool := if gap s < s.size then decide (0 ≤ groupsR (s.extract 0 (gap s)) false) && (decide (0 ≤ groupsR (s.extract (gap s + 2) s.size) true) && decide (groupsR (s.extract 0 (gap s)) false + groupsR (s.extract (gap s + 2) s.size) true ≤ 7)) else decide (groupsR s true = 8)
theorem isAddr_gap {s : ByteArray} {k : Nat} (hk : k < s.size) (h : gap s = k) : isAddr s = (decide (0 ≤ groupsR (s.extract 0 k) false) && (decide (0 ≤ groupsR (s.extract (k + 2) s.size) true) && decide (groupsR (s.extract 0 k) false + groupsR (s.extract (k + 2) s.size) true ≤ 7))) := by
 unfold isAddr
 rw [h, if_pos hk]
theorem isAddr_row {s : ByteArray} (h : gap s = s.size) : isAddr s = decide (groupsR s true = 8) := by
 unfold isAddr
 rw [if_neg (by omega)]
theorem cut_gap (s : ByteArray) : (gap s = s.size ∧ Lib.indexB s ⟨#[58, 58]⟩ = -1) ∨ (∃ k, gap s = k ∧ k + 1 < s.size ∧ Lib.indexB s ⟨#[58, 58]⟩ = k) := by
 have occ : ∀ j, Lib.occAt s.data.toList [58, 58] j = (decide (j + 1 < s.size) && gapAt s j) := by
  intro j
  unfold Lib.occAt gapAt
  by_cases h1 : j + 1 < s.size
  ·have hl : j + 1 < s.data.toList.length := by rw [size_eq]; exact h1
   rw [List.drop_eq_getElem_cons (by omega), List.drop_eq_getElem_cons (by omega), decide_eq_true h1, Bool.true_and]
   have e0 : bt s j = (s.data.toList[j].toNat : Int) := by
    unfold bt
    rw [List.getD_eq_getElem?_getD, List.getElem?_eq_getElem (by omega)]
    rfl
   have e1 : bt s (j + 1) = (s.data.toList[j + 1].toNat : Int) := by
    unfold bt
    rw [List.getD_eq_getElem?_getD, List.getElem?_eq_getElem (by omega)]
    rfl
   rw [e0, e1]
   generalize s.data.toList[j] = a
   generalize s.data.toList[j + 1] = b
   simp only [List.isPrefixOf, Bool.and_true]
   have key : ∀ x : UInt8, ((58 : UInt8) == x) = decide ((x.toNat : Int) = 58) := by
    intro x
    rw [Bool.eq_iff_iff]
    simp only [beq_iff_eq, decide_eq_true_eq]
    constructor
    ·rintro rfl; rfl
    ·intro h
     apply UInt8.toNat_inj.1
     show 58 = x.toNat
     omega
   rw [key, key]
  ·rw [decide_eq_false h1, Bool.false_and]
   rcases e : s.data.toList.drop j with _ | ⟨x, _ | ⟨y, t⟩⟩
   ·rfl
   ·simp [List.isPrefixOf]
   ·have : (s.data.toList.drop j).length = (x :: y :: t).length := by rw [e]
    rw [List.length_drop, size_eq] at this
    simp at this
    omega
 rcases gap_spec s with ⟨h, h2⟩ | ⟨k, h, hk, h3, h4⟩
 ·refine .inl ⟨h, ?_⟩
  show Lib.index s.data.toList [58, 58] = -1
  refine Lib.index_none fun j _ => ?_
  rw [occ]
  by_cases hj : j + 1 < s.size
  ·rw [h2 j hj]; simp
  ·simp; omega
 ·refine .inr ⟨k, h, hk, ?_⟩
  show Lib.index s.data.toList [58, 58] = k
  refine Lib.index_first (by rw [size_eq]; omega) ?_ ?_
  ·rw [occ, h3]; simpa using hk
  ·intro j hj
   rw [occ, h4 j hj]; simp
def isNameH (s : ByteArray) : Bool := decide (0 < s.size) && decide (hostStop s = s.size)
def authBad : ByteArray × Int × Int := (⟨#[]⟩, 0, 52)
def portR (host port : ByteArray) : ByteArray × Int × Int :=
 if 5 < port.size then authBad else if port.size = 0 then (lower host, -1, 0) else if (numR port 65535 10).2 = 0 then (lower host, (numR port 65535 10).1, 0) else authBad
def authR (s : ByteArray) : ByteArray × Int × Int :=
 if 0 < s.size ∧ bt s 0 = 91 then
  (if place s 93 < s.size then
   (if isAddr (s.extract 1 (place s 93)) = true then
    (if place s 93 + 1 = s.size then (lower s, -1, 0) else if bt s (place s 93 + 1) = 58 then portR (s.extract 0 (place s 93 + 1)) (s.extract (place s 93 + 2) s.size) else authBad)
   else authBad)
  else authBad)
 else if isNameH (cutW s 58).1 = true then portR (cutW s 58).1 (cutW s 58).2.1 else authBad
end Go.Proofs.YtbnafbdhomdcoaaGreatDoor.T5
namespace Go.Proofs.YtbnafbdhomdcoaaGreatDoor.T5
structure Tg where
 form : Int
 host : ByteArray
 port : Int
 path : ByteArray
 query : ByteArray
 hasq : Bool
def noTg : Tg := ⟨0, ⟨#[]⟩, 0, ⟨#[]⟩, ⟨#[]⟩, false⟩
def slashT : ByteArray := ⟨#[47]⟩
def Tg.laid (t : Tg) (p q : ByteArray) (h : Bool) : Tg := { t with path := if p.size = 0 then slashT else p, query := q, hasq := h }
def endP (s : ByteArray) (i : Nat) : Nat := i + pathStop (s.extract i s.size)
def endQ (s : ByteArray) (i : Nat) : Nat := i + queryStop (s.extract i s.size)
theorem endP_range {s : ByteArray} {i : Nat} (h : i ≤ s.size) : i ≤ endP s i ∧ endP s i ≤ s.size := by
 have := stopF_le pathSign (s.extract i s.size)
 rw [ext_size s h (Nat.le_refl _)] at this
 unfold endP pathStop
 omega
theorem endQ_range {s : ByteArray} {i : Nat} (h : i ≤ s.size) : i ≤ endQ s i ∧ endQ s i ≤ s.size := by
 have := stopF_le querySign (s.extract i s.size)
 rw [ext_size s h (Nat.le_refl _)] at this
 unfold endQ queryStop
 omega
def behindR (t : Tg) (s : ByteArray) (i : Nat) : Tg × Nat × Int :=
 if endP s i = s.size then (t.laid (s.extract i (endP s i)) ⟨#[]⟩ false, 0, 0)
 else if bt s (endP s i) = 63 then
  (if endQ s (endP s i + 1) < s.size then (noTg, endQ s (endP s i + 1), wrongE s (endQ s (endP s i + 1)) 54)
  else (t.laid (s.extract i (endP s i)) (s.extract (endP s i + 1) s.size) true, 0, 0))
 else (noTg, endP s i, wrongE s (endP s i) 53)
def endA (s : ByteArray) (i : Nat) : Nat := scan (fun j => !(decide (bt s j = 47) || decide (bt s j = 63))) i (s.size - i)
theorem endA_spec {s : ByteArray} {i : Nat} (h : i ≤ s.size) : i ≤ endA s i ∧ endA s i ≤ s.size ∧ (∀ j, i ≤ j → j < endA s i → bt s j ≠ 47 ∧ bt s j ≠ 63) ∧ (endA s i < s.size → bt s (endA s i) = 47 ∨ bt s (endA s i) = 63) := by
 obtain ⟨h1, h2, h3, h4⟩ := scan_spec (fun j => !(decide (bt s j = 47) || decide (bt s j = 63))) (s.size - i) i
 refine ⟨h1, by unfold endA; omega, fun j hj hk => ?_, fun hlt => ?_⟩
 ·have := h3 j hj hk
  simp at this
  exact this
 ·have := h4 (by unfold endA at hlt; omega)
  rw [Bool.not_eq_false', Bool.or_eq_true, decide_eq_true_eq, decide_eq_true_eq] at this
  exact this
theorem endA_at {s : ByteArray} {i k : Nat} (h1 : i ≤ k) (h2 : k < s.size) (hn : ∀ j, i ≤ j → j < k → bt s j ≠ 47 ∧ bt s j ≠ 63) (hb : bt s k = 47 ∨ bt s k = 63) : endA s i = k :=
 scan_stop (fun j g1 g2 => by have := hn j g1 g2; simp [this.1, this.2]) h1 (by omega) (by rw [Bool.not_eq_false', Bool.or_eq_true, decide_eq_true_eq, decide_eq_true_eq]; exact hb)
theorem endA_none {s : ByteArray} {i : Nat} (h : i ≤ s.size) (hn : ∀ j, i ≤ j → j < s.size → bt s j ≠ 47 ∧ bt s j ≠ 63) : endA s i = s.size := by
 have := scan_all (P := fun j => !(decide (bt s j = 47) || decide (bt s j = 63))) (a := i) (n := s.size - i) (fun j g1 g2 => by have := hn j g1 (by omega); simp [this.1, this.2])
 unfold endA
 rw [this]
 omega
def httpT : ByteArray := ⟨#[104, 116, 116, 112, 58, 47, 47]⟩
def connT : ByteArray := ⟨#[67, 79, 78, 78, 69, 67, 84]⟩
def optT : ByteArray := ⟨#[79, 80, 84, 73, 79, 78, 83]⟩
def starT : ByteArray := ⟨#[42]⟩
theorem http_lower : lower httpT = httpT := by decide +kernel
def absR (s : ByteArray) : Tg × Nat × Int :=
 if (authR (s.extract 7 (endA s 7))).2.2 = 0 then behindR ⟨2, (authR (s.extract 7 (endA s 7))).1, (authR (s.extract 7 (endA s 7))).2.1, ⟨#[]⟩, ⟨#[]⟩, false⟩ s (endA s 7) else (noTg, 7, 52)
def connR (s : ByteArray) : Tg × Nat × Int :=
 if (authR s).2.2 = 0 ∧ 0 ≤ (authR s).2.1 then (⟨3, (authR s).1, (authR s).2.1, ⟨#[]⟩, ⟨#[]⟩, false⟩, 0, 0) else (noTg, 0, 52)
def parseT (m s : ByteArray) : Tg × Nat × Int :=
 if s.size = 0 then (noTg, 0, 50)
 else if m = connT then connR s
 else if bt s 0 = 47 then behindR ⟨1, ⟨#[]⟩, -1, ⟨#[]⟩, ⟨#[]⟩, false⟩ s 0
 else if s = starT ∧ m = optT then (⟨4, ⟨#[]⟩, -1, ⟨#[]⟩, ⟨#[]⟩, false⟩, 0, 0)
 else if s.size < 7 ∨ lower (s.extract 0 7) ≠ httpT then (noTg, 0, 50)
 else absR s
theorem authR_err (s : ByteArray) : (authR s).2.2 = 0 ∨ authR s = authBad := by
 have hp : ∀ h p, (portR h p).2.2 = 0 ∨ portR h p = authBad := by
  intro h p
  unfold portR
  split
  ·exact .inr rfl
  ·split
   ·exact .inl rfl
   ·split
    ·exact .inl rfl
    ·exact .inr rfl
 unfold authR
 split
 ·split
  ·split
   ·split
    ·exact .inl rfl
    ·split
     ·exact hp _ _
     ·exact .inr rfl
   ·exact .inr rfl
  ·exact .inr rfl
 ·split
  ·exact hp _ _
  ·exact .inr rfl
theorem ext_pre (s : ByteArray) {i k : Nat} (hi : i ≤ s.size) (hk : i + k ≤ s.size) : (s.extract i s.size).extract 0 k = s.extract i (i + k) := by
 apply bytes_ext
 rw [Lib.extract_data, Lib.extract_data, Lib.extract_data, List.drop_zero, List.take_take]
 congr 1
 omega
end Go.Proofs.YtbnafbdhomdcoaaGreatDoor.T5
namespace Go.Proofs.YtbnafbdhomdcoaaGreatDoor
open Go.RowKit Go.Shelf Go.Lib
section
variable {x y : ByteArray}
end
theorem builder_below {T e : TypeId} {B b : Nat} {bs : List Value} {w w' : World} (h : Lib.IsBuilderF T e B b bs w) (hb : Below w.heap.size w w') : Lib.IsBuilderF T e B b bs w' := by
 have one : ∀ p, Lib.BuilderAtF T e B b p bs w → Lib.BuilderAtF T e B b p bs w' := fun p hp => by
  have hlt := hp.lt
  obtain ⟨hB, v, hv, hown, hne⟩ := hp
  exact ⟨hB, v, (hb.block b hlt).trans hv, hown.kept (row := none) ⟨hb.os, hb.tape, hb.output, hb.size, fun k hk _ => hb.block k hk⟩ (by cases hv : v.ownBlock <;> simp), hne⟩
 exact h.elim (fun x => .inl (one _ x)) (fun x => .inr (one _ x))
end Go.Proofs.YtbnafbdhomdcoaaGreatDoor
namespace Go.Proofs.YtbnafbdhomdcoaaGreatDoor
open Go.RowKit Go.Shelf Go.Lib
def GivesUnq (w : World) (n : Nat) (e : Ending) (w' : World) : Prop := ∃ v : ByteArray, e = .returned (.tuple #[.string v, .int .i64 n, .int .i64 (if n = 0 then 13 else 0)]) ∧ Below w.heap.size w w'
theorem gives_unq {w w' : World} {n : Nat} {v : ByteArray} {k x : Int} (hk : k = (n : Int)) (hx : x = if n = 0 then 13 else 0) (hb : Below w.heap.size w w') : GivesUnq w n (.returned (.tuple #[.string v, .int .i64 k, .int .i64 x])) w' := by
 subst hk hx
 exact ⟨v, rfl, hb⟩
theorem gives_unq0 {w w' : World} {s : ByteArray} (h : quLen s = 0) (hb : Below w.heap.size w w') : GivesUnq w (quLen s) (.returned (.tuple #[.string ⟨#[]⟩, .int .i64 0, .int .i64 13])) w' := by
 rw [h]
 exact gives_unq rfl rfl hb
theorem byte_cells_snoc (l : List UInt8) (c : UInt8) : Lib.byteCells l ++ [.int .u8 (c.toNat : Int)] = Lib.byteCells (l ++ [c]) := by
 rw [Lib.byteCells_append]
 rfl
theorem bt_byte (s : ByteArray) (k : Nat) : ∃ c : UInt8, bt s k = (c.toNat : Int) := ⟨_, rfl⟩
set_option maxRecDepth 20000 in
set_option maxHeartbeats 2000000 in
theorem Unquote_any (s : ByteArray) (w : World) (hs : s.size ≤ 1099511627776) (h0 : 0 < s.size) (hq0 : bt s 0 = 34) :
  Calls Tryz.prog 200 #[.string s] w (GivesUnq w (quLen s)) := by
 have he : s.toList.isEmpty = false := by rw [empty_eq]; exact decide_eq_false (by omega)
 have hb0 := @bt_eq s 0 h0
 have hc0 : (bt s 0 != 34) = false := by rw [hq0]; rfl
 clear hq0
 go_enter Tryz.func200, Tryz.ntmps200
 go_wp2
 go_loopw [6] (fun v wr => ∃ (k : Nat) (acc : List UInt8), 1 ≤ k ∧ k ≤ s.size + 1 ∧ v = .int .i64 k ∧ QuAt s k ∧ Lib.IsBuilderF 145 5 w.heap.size w.heap.size (Lib.byteCells acc) wr ∧ Below w.heap.size w wr ∧ w.heap.size < wr.heap.size ∧ acc.length ≤ k) (fun v _ => s.size - (RowKit.intOf v).toNat)
 case atStart => exact ⟨1, [], by omega, by omega, rfl, QuAt.start s, Lib.IsBuilderF.of (Lib.fresh_isBuilder 145 5 w), (Below.refl _ w).alloc (Nat.le_refl _) _, by simp, by simp⟩
 case round =>
  obtain ⟨k, acc, hk1, hk, rfl, hq, hI, hbw, hsz, hacc⟩ := hrel
  by_cases hlt : k < s.size
  ·have hb := @bt_eq s k hlt
   by_cases h34 : bt s k = 34
   ·have hc := beq_iff_eq.2 h34
    have HE := Lib.hid (hq.quote hlt h34)
    clear h34 hq
    go_wp2_with fail
    refine (Tryz.Builder_String_any_k w.heap.size w.heap.size acc _ hI (by omega)).mono ?_
    rintro e w1 ⟨rfl, _, b1, _⟩
    go_wp2
    go_ret3
    exact gives_unq (by rw [HE.out]; omega) (by rw [HE.out, if_neg (by omega)]) (hbw.trans b1)
   ·have hc : (bt s k == 34) = false := beq_eq_false_iff_ne.2 h34
    by_cases h92 : bt s k = 92
    ·have hc2 := beq_iff_eq.2 h92
     by_cases hend : k + 1 = s.size
     ·have HE := Lib.hid (hq.esc_end hend h92)
      have hc3 : ((k : Int) + 1 == (s.size : Int)) = true := beq_iff_eq.2 (by omega)
      clear h34 h92 hq hend
      go_wp2
      go_ret3
      exact gives_unq0 HE.out hbw
     ·have hlt2 : k + 1 < s.size := by omega
      have hc3 : ((k : Int) + 1 == (s.size : Int)) = false := beq_eq_false_iff_ne.2 (by omega)
      have hb2 := @bt_eq s (k + 1) hlt2
      have hi : ((k : Int) + 1).toNat = k + 1 := by omega
      have hlt3 : (k : Int) + 1 < (s.size : Int) := by omega
      cases hin : inside (bt s (k + 1))
      ·have HE := Lib.hid (hq.esc_bad hlt2 h92 hin)
       clear h34 h92 hq hend
       go_wp2_with fail
       refine (isFieldByte_any _ _).mono ?_
       rw [hin]
       rintro e w' ⟨rfl, rfl⟩
       go_wp2
       go_ret3
       exact gives_unq0 HE.out hbw
      ·have HE := Lib.hid (hq.esc_on hlt2 h92 hin)
       clear h34 h92 hq hend
       go_wp2_with fail
       refine (isFieldByte_any _ _).mono ?_
       rw [hin]
       rintro e w' ⟨rfl, rfl⟩
       go_wp2_with fail
       obtain ⟨c, hcc⟩ := bt_byte s (k + 1)
       refine (WriteByte_k w.heap.size w.heap.size _ _ _ hI (by rw [Lib.byteCells_length]; omega) (by omega)).mono ?_
       rintro e w2 ⟨rfl, h2, hb2', _⟩
       rw [hcc, byte_cells_snoc] at h2
       have hI2 : Lib.IsBuilderF 145 5 w.heap.size w.heap.size (Lib.byteCells (acc ++ [c])) w2 := .inr h2
       have hbw2 : Below w.heap.size w w2 := hbw.trans hb2'
       have hsz2 : w.heap.size < w2.heap.size := Nat.lt_of_lt_of_le hsz hb2'.size
       clear h2 hb2' hI hcc
       go_wp2
       go_roundw
       case rel => exact ⟨k + 2, _, by omega, by omega, by go_num, HE.out, hI2, hbw2, hsz2, by simp; omega⟩
       case measure => simp [RowKit.intOf]; omega
    ·have hc2 : (bt s k == 92) = false := beq_eq_false_iff_ne.2 h92
     cases hin : inside (bt s k)
     ·have HE := Lib.hid (hq.bad hlt h34 h92 hin)
      clear h34 h92 hq
      go_wp2_with fail
      refine (isFieldByte_any _ _).mono ?_
      rw [hin]
      rintro e w' ⟨rfl, rfl⟩
      go_wp2
      go_ret3
      exact gives_unq0 HE.out hbw
     ·have HE := Lib.hid (hq.on hlt h34 h92 hin)
      clear h34 h92 hq
      go_wp2_with fail
      refine (isFieldByte_any _ _).mono ?_
      rw [hin]
      rintro e w' ⟨rfl, rfl⟩
      go_wp2_with fail
      obtain ⟨c, hcc⟩ := bt_byte s k
      refine (WriteByte_k w.heap.size w.heap.size _ _ _ hI (by rw [Lib.byteCells_length]; omega) (by omega)).mono ?_
      rintro e w2 ⟨rfl, h2, hb2', _⟩
      rw [hcc, byte_cells_snoc] at h2
      have hI2 : Lib.IsBuilderF 145 5 w.heap.size w.heap.size (Lib.byteCells (acc ++ [c])) w2 := .inr h2
      have hbw2 : Below w.heap.size w w2 := hbw.trans hb2'
      have hsz2 : w.heap.size < w2.heap.size := Nat.lt_of_lt_of_le hsz hb2'.size
      clear h2 hb2' hI hcc
      go_wp2
      go_roundw
      case rel => exact ⟨k + 1, _, by omega, by omega, by go_num, HE.out, hI2, hbw2, hsz2, by simp; omega⟩
      case measure => simp [RowKit.intOf]; omega
  ·have HE := Lib.hid (hq.end_ (by omega))
   clear hq
   go_wp2
   go_ret3
   exact gives_unq0 HE.out hbw
end Go.Proofs.YtbnafbdhomdcoaaGreatDoor
