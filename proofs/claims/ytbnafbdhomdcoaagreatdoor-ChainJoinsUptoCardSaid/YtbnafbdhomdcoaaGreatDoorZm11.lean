/-
  TgC, TgN, without what the claim does not reach.
-/
import Derived.Test.YtbnafbdhomdcoaaGreatDoorZm10
import Derived.Lib.SplitLaws
import Derived.Lib.Join
namespace Go.Proofs.YtbnafbdhomdcoaaGreatDoor.T5
theorem indexB_one (s : ByteArray) (c : UInt8) : Lib.indexB s ⟨#[c]⟩ = findB s (c.toNat : Int) := by
 have h := indexByte_eq s (c.toNat : Int) (by omega) (by have := c.toNat_lt; omega)
 rw [show ((c.toNat : Int)).toNat.toUInt8 = c by simp] at h
 rw [← h]
 exact Lib.index_one _ _
def cutW (s : ByteArray) (c : Int) : ByteArray × ByteArray × Bool := if place s c < s.size then (s.extract 0 (place s c), s.extract (place s c + 1) s.size, true) else (s, ⟨#[]⟩, false)
section
variable {s : ByteArray} {c : Int} {k : Nat}
theorem cutW_hit (hk : k < s.size) (hp : place s c = k) : cutW s c = (s.extract 0 k, s.extract (k + 1) s.size, true) := by unfold cutW; rw [hp, if_pos hk]
theorem cutW_miss (hp : place s c = s.size) : cutW s c = (s, ⟨#[]⟩, false) := by unfold cutW; rw [hp, if_neg (by omega)]
theorem place_spec (s : ByteArray) (c : Int) : (place s c = s.size ∧ ∀ j, j < s.size → bt s j ≠ c) ∨ (∃ k, place s c = k ∧ k < s.size ∧ bt s k = c ∧ ∀ j, j < k → bt s j ≠ c) := by
 rcases findB_cases s c with ⟨_, h, h2⟩ | ⟨k, hk, _, hp, hb, hn⟩
 ·exact .inl ⟨h, h2⟩
 ·exact .inr ⟨k, hp, hk, hb, hn⟩
end
theorem cut_eq (s : ByteArray) (c : UInt8) : (⟨(Lib.cut s.data.toList [c]).1.toArray⟩ : ByteArray) = (cutW s c.toNat).1 ∧ (⟨(Lib.cut s.data.toList [c]).2.1.toArray⟩ : ByteArray) = (cutW s c.toNat).2.1 ∧ (Lib.cut s.data.toList [c]).2.2 = (cutW s c.toNat).2.2 := by
 have hx := indexB_one s c
 rcases findB_cases s (c.toNat : Int) with ⟨h1, hp, _⟩ | ⟨k, hk, h1, hp, _, _⟩
 ·rw [h1] at hx
  have h := Lib.cutB_miss s ⟨#[c]⟩ hx
  rw [cutW_miss hp]
  exact h
 ·rw [h1] at hx
  have h := Lib.cutB_hit s ⟨#[c]⟩ k hx
  rw [cutW_hit hk hp]
  exact h
theorem cutW_size (s : ByteArray) (c : Int) : (cutW s c).1.size ≤ s.size ∧ (cutW s c).2.1.size ≤ s.size ∧ (cutW s c).1.size + (cutW s c).2.1.size ≤ s.size := by
 rcases place_spec s c with ⟨h, _⟩ | ⟨k, h, hk, _⟩
 ·rw [cutW_miss h]; exact ⟨Nat.le_refl _, Nat.zero_le _, Nat.le_refl _⟩
 ·rw [cutW_hit hk h]
  have h1 := ext_size s (a := 0) (b := k) (by omega) (by omega)
  have h2 := ext_size s (a := k + 1) (b := s.size) (by omega) (by omega)
  simp only
  omega
def splitGo (c : Int) : Nat → ByteArray → List ByteArray
 | 0, s => [s]
 | n + 1, s => if place s c < s.size then s.extract 0 (place s c) :: splitGo c n (s.extract (place s c + 1) s.size) else [s]
def splitC (s : ByteArray) (c : Int) : List ByteArray := splitGo c s.size s
theorem splitGo_more (c : Int) : ∀ (n : Nat) (s : ByteArray), s.size ≤ n → splitGo c n s = splitGo c (n + 1) s
 | 0, s, h => by
  unfold splitGo
  rw [if_neg (by omega)]
 | n + 1, s, h => by
  conv => lhs; unfold splitGo
  conv => rhs; unfold splitGo
  split
  ·rw [splitGo_more c n _ (by rw [ext_size s (by omega) (by omega)]; omega)]
  ·rfl
theorem splitGo_eq (c : Int) (s : ByteArray) : ∀ (d n : Nat), s.size ≤ n → splitGo c (n + d) s = splitGo c n s
 | 0, _, _ => rfl
 | d + 1, n, h => by rw [← Nat.add_assoc, ← splitGo_more c (n + d) s (by omega)]; exact splitGo_eq c s d n h
section
variable {s : ByteArray} {c : Int}
theorem splitC_go {n : Nat} (h : s.size ≤ n) : splitGo c n s = splitC s c := by
 have := splitGo_eq c s (n - s.size) s.size (Nat.le_refl _)
 rw [show s.size + (n - s.size) = n from by omega] at this
 exact this
theorem splitC_miss (h : place s c = s.size) : splitC s c = [s] := by
 rw [← splitC_go (n := s.size + 1) (by omega)]
 unfold splitGo
 rw [if_neg (by omega)]
theorem splitC_hit {k : Nat} (hk : k < s.size) (h : place s c = k) : splitC s c = s.extract 0 k :: splitC (s.extract (k + 1) s.size) c := by
 rw [← splitC_go (n := s.size + 1) (by omega)]
 unfold splitGo
 rw [h, if_pos hk, splitC_go (by rw [ext_size s (by omega) (by omega)]; omega)]
end
theorem splitC_ne (s : ByteArray) (c : Int) : splitC s c ≠ [] := by
 rcases place_spec s c with ⟨h, _⟩ | ⟨k, h, hk, _⟩
 ·rw [splitC_miss h]; simp
 ·rw [splitC_hit hk h]; simp
theorem splitB_eq (c : UInt8) : ∀ (n : Nat) (s : ByteArray), s.size ≤ n → Lib.splitB ⟨#[c]⟩ 0 (Lib.countB s ⟨#[c]⟩) s = splitC s c.toNat ∧ (splitC s c.toNat).length = Lib.countB s ⟨#[c]⟩ + 1
 | n, s, hn => by
  have hx := indexB_one s c
  rcases findB_cases s (c.toNat : Int) with ⟨h1, hp, _⟩ | ⟨k, hk, h1, hp, _, _⟩
  ·rw [h1] at hx
   rw [Lib.countB_miss s _ hx, splitC_miss hp]
   exact ⟨rfl, rfl⟩
  ·rw [h1] at hx
   have hz := ext_size s (a := k + 1) (b := s.size) (by omega) (by omega)
   have hc := Lib.countB_hit s ⟨#[c]⟩ k (by show 1 ≤ 1; omega) hx
   match n, hn with
   | 0, hn => omega
   | n + 1, hn =>
    obtain ⟨ih1, ih2⟩ := splitB_eq c n (s.extract (k + 1) s.size) (by omega)
    have hc' : Lib.countB s ⟨#[c]⟩ = Lib.countB (s.extract (k + 1) s.size) ⟨#[c]⟩ + 1 := by rw [hc, Nat.add_comm]; rfl
    rw [hc', splitC_hit hk hp, Lib.splitB_hit _ _ _ _ _ hx]
    refine ⟨?_, by rw [List.length_cons, ih2]⟩
    rw [← ih1]
    rfl
def sumS (l : List ByteArray) : Nat := (l.map (·.size)).sum
theorem sumS_cons (x : ByteArray) (l : List ByteArray) : sumS (x :: l) = x.size + sumS l := by simp [sumS]
theorem sumS_append (l m : List ByteArray) : sumS (l ++ m) = sumS l + sumS m := by simp [sumS]
theorem sumS_mem {l : List ByteArray} {x : ByteArray} (h : x ∈ l) : x.size ≤ sumS l := by
 induction l with
 | nil => cases h
 | cons y l ih =>
  rw [sumS_cons]
  rcases List.mem_cons.1 h with rfl | h
  ·omega
  ·have := ih h; omega
theorem splitC_sum (c : Int) : ∀ (n : Nat) (s : ByteArray), s.size ≤ n → sumS (splitC s c) + (splitC s c).length = s.size + 1
 | n, s, hn => by
  rcases place_spec s c with ⟨h, _⟩ | ⟨k, h, hk, _⟩
  ·rw [splitC_miss h]; simp [sumS]
  ·rw [splitC_hit hk h, sumS_cons, List.length_cons]
   have h1 := ext_size s (a := 0) (b := k) (by omega) (by omega)
   have h2 := ext_size s (a := k + 1) (b := s.size) (by omega) (by omega)
   match n, hn with
   | 0, hn => omega
   | n + 1, hn =>
    have := splitC_sum c n (s.extract (k + 1) s.size) (by omega)
    omega
theorem splitC_len (s : ByteArray) (c : Int) : (splitC s c).length ≤ s.size + 1 := by have := splitC_sum c s.size s (Nat.le_refl _); omega
theorem splitC_size {s : ByteArray} {c : Int} {x : ByteArray} (h : x ∈ splitC s c) : x.size ≤ s.size := by
 have := splitC_sum c s.size s (Nat.le_refl _)
 have h1 := sumS_mem h
 have := List.length_pos_of_mem h
 omega
end Go.Proofs.YtbnafbdhomdcoaaGreatDoor.T5
namespace Go.Proofs.YtbnafbdhomdcoaaGreatDoor.T5
def plGo (s : ByteArray) : Nat → Nat → List UInt8 → List UInt8
 | 0, _, acc => acc
 | n + 1, i, acc => if i < s.size then (if tri s i = true then plGo s n (i + 3) (acc ++ encB (triB s i)) else plGo s n (i + 1) (acc ++ [byteAt s i])) else acc
theorem plGo_more (s : ByteArray) : ∀ (n i : Nat) (acc : List UInt8), s.size - i ≤ n → plGo s n i acc = plGo s (n + 1) i acc
 | 0, i, acc, h => by
  unfold plGo
  rw [if_neg (by omega)]
 | n + 1, i, acc, h => by
  conv => lhs; unfold plGo
  conv => rhs; unfold plGo
  split
  ·split
   ·exact plGo_more s n (i + 3) _ (by omega)
   ·exact plGo_more s n (i + 1) _ (by omega)
  ·rfl
theorem plGo_eq (s : ByteArray) (i : Nat) (acc : List UInt8) : ∀ (d n : Nat), s.size - i ≤ n → plGo s (n + d) i acc = plGo s n i acc
 | 0, _, _ => rfl
 | d + 1, n, h => by rw [← Nat.add_assoc, ← plGo_more s (n + d) i acc (by omega)]; exact plGo_eq s i acc d n h
def plF (s : ByteArray) (i : Nat) (acc : List UInt8) : List UInt8 := plGo s (s.size - i) i acc
section
variable {s : ByteArray} {i : Nat} {acc : List UInt8}
theorem plF_go {n : Nat} (h : s.size - i ≤ n) : plGo s n i acc = plF s i acc := by
 have := plGo_eq s i acc (n - (s.size - i)) (s.size - i) (Nat.le_refl _)
 rw [show s.size - i + (n - (s.size - i)) = n from by omega] at this
 exact this
theorem plF_end (h : s.size ≤ i) : plF s i acc = acc := by
 unfold plF
 rw [show s.size - i = 0 from by omega]
 rfl
theorem plF_step (h : i < s.size) : plF s i acc = if tri s i = true then plF s (i + 3) (acc ++ encB (triB s i)) else plF s (i + 1) (acc ++ [byteAt s i]) := by
 have e : s.size - i = (s.size - i - 1) + 1 := by omega
 conv => lhs; unfold plF; rw [e]; unfold plGo
 rw [if_pos h, plF_go (by omega), plF_go (by omega)]
theorem plF_tri (h : tri s i = true) : plF s i acc = plF s (i + 3) (acc ++ encB (triB s i)) := by
 have := (tri_iff.1 h).1
 rw [plF_step (by omega), if_pos h]
theorem plF_on (hi : i < s.size) (h : tri s i = false) : plF s i acc = plF s (i + 1) (acc ++ [byteAt s i]) := by
 rw [plF_step hi, if_neg (by rw [h]; simp)]
end
theorem plF_acc (s : ByteArray) : ∀ (n i : Nat) (acc : List UInt8), s.size - i ≤ n → plF s i acc = acc ++ plF s i []
 | 0, i, acc, h => by rw [plF_end (by omega), plF_end (by omega), List.append_nil]
 | n + 1, i, acc, h => by
  by_cases hlt : i < s.size
  ·rw [plF_step hlt, plF_step hlt]
   split
   ·rw [plF_acc s n (i + 3) _ (by omega), plF_acc s n (i + 3) ([] ++ _) (by omega)]
    simp
   ·rw [plF_acc s n (i + 1) _ (by omega), plF_acc s n (i + 1) ([] ++ _) (by omega)]
    simp
  ·rw [plF_end (by omega), plF_end (by omega), List.append_nil]
theorem plF_len (s : ByteArray) : ∀ (n i : Nat) (acc : List UInt8), s.size - i ≤ n → i ≤ s.size → (plF s i acc).length ≤ acc.length + (s.size - i)
 | 0, i, acc, h, hi => by rw [plF_end (by omega)]; omega
 | n + 1, i, acc, h, hi => by
  by_cases hlt : i < s.size
  ·rw [plF_step hlt]
   split
   ·rename_i ht
    have h3 := (tri_iff.1 ht).1
    have := plF_len s n (i + 3) (acc ++ encB (triB s i)) (by omega) (by omega)
    have h2 := (encB_len (triB s i)).2
    rw [List.length_append] at this
    omega
   ·have := plF_len s n (i + 1) (acc ++ [byteAt s i]) (by omega) (by omega)
    rw [List.length_append] at this
    simp at this
    omega
  ·rw [plF_end (by omega)]; omega
def plainT (s : ByteArray) : ByteArray := ⟨(plF s 0 []).toArray⟩
theorem plainT_size (s : ByteArray) : (plainT s).size ≤ s.size := by
 have := plF_len s s.size 0 [] (by omega) (by omega)
 rw [← size_eq]
 simpa [plainT] using this
def dotT : ByteArray := ⟨#[46]⟩
def dotsT : ByteArray := ⟨#[46, 46]⟩
def isDots (x : ByteArray) : Bool := decide (x = dotT) || decide (x = dotsT)
def keepOne (kept : List ByteArray) (x : ByteArray) : List ByteArray := if x = dotsT then kept.dropLast else if x = dotT then kept else kept ++ [x]
def keepAll (kept : List ByteArray) (l : List ByteArray) : List ByteArray := l.foldl keepOne kept
def lastDots (d : Bool) (l : List ByteArray) : Bool := match l.getLast? with
 | none => d
 | some x => isDots x
def keptR (l : List ByteArray) : List ByteArray := if lastDots false l = true then keepAll [] l ++ [⟨#[]⟩] else keepAll [] l
theorem keepAll_snoc (kept l : List ByteArray) (x : ByteArray) : keepAll kept (l ++ [x]) = keepOne (keepAll kept l) x := by simp [keepAll]
theorem lastDots_snoc (d : Bool) (l : List ByteArray) (x : ByteArray) : lastDots d (l ++ [x]) = isDots x := by simp [lastDots]
theorem keptR_ne {l : List ByteArray} (h : l ≠ []) : keptR l ≠ [] := by
 have e := List.dropLast_concat_getLast h
 generalize l.getLast h = x at e
 generalize l.dropLast = m at e
 subst e
 unfold keptR
 rw [lastDots_snoc, keepAll_snoc]
 cases hd : isDots x
 ·rw [if_neg (by simp)]
  simp only [isDots, Bool.or_eq_false_iff, decide_eq_false_iff_not] at hd
  unfold keepOne
  rw [if_neg hd.2, if_neg hd.1]
  simp
 ·rw [if_pos rfl]; simp
theorem keepOne_sum (kept : List ByteArray) (x : ByteArray) : sumS (keepOne kept x) ≤ sumS kept + x.size ∧ (keepOne kept x).length ≤ kept.length + 1 := by
 have hd : sumS kept.dropLast ≤ sumS kept := by
  by_cases h : kept = []
  ·rw [h]; simp [sumS]
  ·have e := List.dropLast_concat_getLast h
   have : sumS kept = sumS kept.dropLast + sumS [kept.getLast h] := by rw [← sumS_append, e]
   omega
 unfold keepOne
 split
 ·simp; omega
 ·split
  ·omega
  ·rw [sumS_append]; simp [sumS]
theorem keepAll_sum (l : List ByteArray) : ∀ kept : List ByteArray, sumS (keepAll kept l) ≤ sumS kept + sumS l ∧ (keepAll kept l).length ≤ kept.length + l.length := by
 induction l with
 | nil => intro kept; simp [keepAll, sumS]
 | cons x l ih =>
  intro kept
  have h1 := keepOne_sum kept x
  have h2 := ih (keepOne kept x)
  have e : keepAll kept (x :: l) = keepAll (keepOne kept x) l := rfl
  rw [e, sumS_cons, List.length_cons]
  omega
theorem keptR_sum (l : List ByteArray) : sumS (keptR l) ≤ sumS l ∧ (keptR l).length ≤ l.length + 1 := by
 have := keepAll_sum l []
 unfold keptR
 split
 ·have hz : sumS [(⟨#[]⟩ : ByteArray)] = 0 := rfl
  have h0 : sumS [] = 0 := rfl
  rw [sumS_append, List.length_append, hz]
  simp only [List.length_nil, List.length_cons] at *
  omega
 ·have h0 : sumS [] = 0 := rfl
  simp only [List.length_nil] at *
  omega
def slashAll (l : List ByteArray) : List UInt8 := l.flatMap fun x => 47 :: x.data.toList
def pathOf (l : List ByteArray) : ByteArray := if l = [] then ⟨#[47]⟩ else ⟨(slashAll l).toArray⟩
theorem slashAll_join : ∀ {l : List ByteArray}, l ≠ [] → slashAll l = 47 :: Lib.join (l.map (·.data.toList)) [47]
 | [], h => absurd rfl h
 | [x], _ => by simp [slashAll, Lib.join, List.intercalate]
 | x :: y :: r, _ => by
  have ih := slashAll_join (l := y :: r) (by simp)
  have e : slashAll (x :: y :: r) = 47 :: x.data.toList ++ slashAll (y :: r) := rfl
  rw [e, ih]
  simp [Lib.join, List.intercalate]
theorem slashAll_len (l : List ByteArray) : (slashAll l).length = sumS l + l.length := by
 induction l with
 | nil => rfl
 | cons x l ih =>
  have e : slashAll (x :: l) = 47 :: x.data.toList ++ slashAll l := rfl
  rw [e, sumS_cons, List.length_append, ih, List.length_cons, List.length_cons, size_eq]
  omega
def behind1 (s : ByteArray) : ByteArray := s.extract 1 s.size
def normR (s : ByteArray) : ByteArray × Int := if isPathB s = true then (pathOf (keptR (splitC (behind1 (plainT s)) 47)), 0) else (⟨#[]⟩, 53)
end Go.Proofs.YtbnafbdhomdcoaaGreatDoor.T5
