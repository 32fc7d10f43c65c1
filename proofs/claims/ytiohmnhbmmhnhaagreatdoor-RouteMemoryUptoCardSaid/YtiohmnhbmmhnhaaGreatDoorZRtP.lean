/-
 RtP, without what this claim does not reach.
-/
import Derived.Test.YtiohmnhbmmhnhaaGreatDoorZRxCr
import Derived.Test.YtiohmnhbmmhnhaaGreatDoorZPlain
namespace Go.Proofs.YtiohmnhbmmhnhaaGreatDoor
abbrev Rt := List ByteArray × ByteArray
def inL (l : List ByteArray) (s : ByteArray) : Bool := l.any fun x => decide (x = s)
theorem inL_iff {l : List ByteArray} {s : ByteArray} : inL l s = true ↔ s ∈ l := by
 unfold inL
 rw [List.any_eq_true]
 constructor
 ·rintro ⟨x, hx, h⟩
  rw [← of_decide_eq_true h]; exact hx
 ·intro h
  exact ⟨s, h, decide_eq_true rfl⟩
def methodB (s : ByteArray) : Bool := isTok s && decide (s.size ≤ 24)
def wrongGo (l : List ByteArray) : List ByteArray → Nat → Bool
 | [], _ => false
 | m :: ms, k => !methodB m || inL (l.take k) m || wrongGo l ms (k + 1)
def wrongM (l : List ByteArray) : Bool := wrongGo l l 0
def wrongP (r : Rt) : Int := if (checkP r.2).2 ≠ 0 then 130 else if wrongM r.1 = true then 141 else 0
def sharedM (a b : List ByteArray) : Bool := a.any fun m => inL b m
def clashP (a b : Rt) : Int :=
 if a.2 ≠ b.2 then (if cmpR a.2 b.2 = (0, 0) then 142 else 0)
 else if ((decide (a.1.length = 0) && decide (b.1.length = 0)) || sharedM a.1 b.1) = true then 131 else 0
def worseP (worst e : Int) : Int := if e = 142 ∨ (e = 131 ∧ worst = 0) then e else worst
def worstP (ahead : List Rt) (r : Rt) : Int := ahead.foldl (fun w x => worseP w (clashP x r)) 0
def newGo (ahead : List Rt) : List Rt → Nat → Nat × Int
 | [], _ => (0, 0)
 | r :: rest, i => if wrongP r ≠ 0 then (i, wrongP r) else if worstP ahead r ≠ 0 then (i, worstP ahead r) else newGo (ahead ++ [r]) rest (i + 1)
def newP (l : List Rt) : Nat × Int := if 256 < l.length then (256, 140) else newGo [] l 0
def namesR (ahead : List Rt) (r : Rt) : Bool := ahead.any fun x => decide ((cmpR x.2 r.2).1 = 0) && decide (x.2 ≠ r.2)
def sharesR (a b : Rt) : Bool := if a.1.length = 0 ∨ b.1.length = 0 then decide (a.1.length = b.1.length) else a.1.any fun m => inL b.1 m
def twiceR (ahead : List Rt) (r : Rt) : Bool := ahead.any fun x => decide (x.2 = r.2) && sharesR x r
def newGoR (ahead : List Rt) : List Rt → Nat → Nat × Int
 | [], _ => (0, 0)
 | r :: rest, i =>
  if (checkP r.2).2 ≠ 0 then (i, 130)
  else if wrongM r.1 = true then (i, 141)
  else if namesR ahead r = true then (i, 142)
  else if twiceR ahead r = true then (i, 131)
  else newGoR (ahead ++ [r]) rest (i + 1)
def newR (l : List Rt) : Nat × Int := if 256 < l.length then (256, 140) else newGoR [] l 0
theorem clash_codes (a b : Rt) : clashP a b = 142 ∨ clashP a b = 131 ∨ clashP a b = 0 := by
 unfold clashP
 split
 ·split
  ·exact .inl rfl
  ·exact .inr (.inr rfl)
 ·split
  ·exact .inr (.inl rfl)
  ·exact .inr (.inr rfl)
theorem worst_fold (r : Rt) : ∀ (l : List Rt) (w : Int), (w = 142 ∨ w = 131 ∨ w = 0) →
  l.foldl (fun w x => worseP w (clashP x r)) w = if w = 142 ∨ (l.any fun x => decide (clashP x r = 142)) = true then 142 else if w = 131 ∨ (l.any fun x => decide (clashP x r = 131)) = true then 131 else 0
 | [], w, hw => by
  show w = if w = 142 ∨ false = true then 142 else if w = 131 ∨ false = true then 131 else 0
  rcases hw with rfl | rfl | rfl <;> decide
 | x :: l, w, hw => by
  rw [List.foldl_cons, worst_fold r l _ (by
   unfold worseP
   rcases clash_codes x r with h | h | h <;> rw [h] <;> rcases hw with rfl | rfl | rfl <;> simp)]
  rw [List.any_cons, List.any_cons]
  generalize (l.any fun x => decide (clashP x r = 142)) = A
  generalize (l.any fun x => decide (clashP x r = 131)) = B
  rcases clash_codes x r with h | h | h <;> rw [h] <;> rcases hw with rfl | rfl | rfl <;> cases A <;> cases B <;> decide
theorem worst_eq (ahead : List Rt) (r : Rt) : worstP ahead r = if (ahead.any fun x => decide (clashP x r = 142)) = true then 142 else if (ahead.any fun x => decide (clashP x r = 131)) = true then 131 else 0 := by
 unfold worstP
 rw [worst_fold r ahead 0 (.inr (.inr rfl))]
 generalize (ahead.any fun x => decide (clashP x r = 142)) = A
 generalize (ahead.any fun x => decide (clashP x r = 131)) = B
 cases A <;> cases B <;> decide
theorem shares_same (a b : Rt) : ((decide (a.1.length = 0) && decide (b.1.length = 0)) || sharedM a.1 b.1) = sharesR a b := by
 unfold sharesR sharedM
 obtain ⟨a, p⟩ := a
 obtain ⟨b, q⟩ := b
 cases a <;> cases b <;> simp [inL]
theorem cmp_right {a b : ByteArray} (ha : (checkP a).2 = 0) (hb : (checkP b).2 = 0) : (cmpR a b).2 = 0 := by
 have h1 : (splitP a).2.2 = true := by
  cases h : (splitP a).2.2
  ·rw [chk_no h] at ha; cases ha
  ·rfl
 have h2 : (splitP b).2.2 = true := by
  cases h : (splitP b).2.2
  ·rw [chk_no h] at hb; cases hb
  ·rfl
 unfold cmpR
 rw [if_pos ⟨h1, h2⟩]
theorem names_same {ahead : List Rt} {r : Rt} (hr : (checkP r.2).2 = 0) (ha : ∀ x ∈ ahead, (checkP x.2).2 = 0) : (ahead.any fun x => decide (clashP x r = 142)) = namesR ahead r := by
 unfold namesR
 induction ahead with
 | nil => rfl
 | cons x l ih =>
  rw [List.any_cons, List.any_cons, ih fun y hy => ha y (List.mem_cons_of_mem _ hy)]
  congr 1
  have hc := cmp_right (ha x (List.mem_cons_self ..)) hr
  unfold clashP
  by_cases h : x.2 = r.2
  ·simp [h]
   split <;> simp
  ·simp only [ne_eq, h, not_false_eq_true, if_true, decide_true, Bool.and_true]
   by_cases h2 : cmpR x.2 r.2 = (0, 0)
   ·rw [h2]; simp
   ·rw [if_neg h2]
    have : ¬ (cmpR x.2 r.2).1 = 0 := fun e => h2 (Prod.ext e hc)
    simp [this]
theorem twice_same {ahead : List Rt} {r : Rt} : (ahead.any fun x => decide (clashP x r = 131)) = twiceR ahead r := by
 unfold twiceR
 congr 1
 funext x
 unfold clashP
 by_cases h : x.2 = r.2
 ·simp only [h, ne_eq, not_true_eq_false, if_false, decide_true, Bool.true_and]
  rw [shares_same]
  cases sharesR x r <;> simp
 ·simp only [ne_eq, h, not_false_eq_true, if_true, decide_false, Bool.false_and]
  split <;> simp
theorem newGo_same : ∀ (l ahead : List Rt) (i : Nat), (∀ x ∈ ahead, (checkP x.2).2 = 0) → newGo ahead l i = newGoR ahead l i
 | [], _, _, _ => rfl
 | r :: rest, ahead, i, ha => by
  unfold newGo newGoR wrongP
  by_cases h1 : (checkP r.2).2 = 0
  ·simp only [h1, ne_eq, not_true_eq_false, if_false]
   by_cases h2 : wrongM r.1 = true
   ·simp [h2]
   ·simp only [h2, Bool.false_eq_true, if_false, not_true_eq_false]
    rw [worst_eq, names_same h1 ha, twice_same]
    by_cases h3 : namesR ahead r = true
    ·simp [h3]
    ·by_cases h4 : twiceR ahead r = true
     ·simp [h3, h4]
     ·simp only [h3, h4, Bool.false_eq_true, if_false, not_true_eq_false]
      exact newGo_same rest (ahead ++ [r]) (i + 1) fun x hx => by
       rcases List.mem_append.1 hx with h | h
       ·exact ha x h
       ·simp at h; subst h; exact h1
  ·simp [h1]
theorem new_same (l : List Rt) : newP l = newR l := by
 unfold newP newR
 split
 ·rfl
 ·exact newGo_same l [] 0 fun x hx => by cases hx
end Go.Proofs.YtiohmnhbmmhnhaaGreatDoor
namespace Go.Proofs.YtiohmnhbmmhnhaaGreatDoor
section
variable {α : Type}
theorem rise_unique {lt : α → α → Prop} (hirr : ∀ a, ¬ lt a a) (htr : ∀ a b c, lt a b → lt b c → lt a c) :
  ∀ {l m : List α}, l.Pairwise lt → m.Pairwise lt → (∀ x, x ∈ l ↔ x ∈ m) → l = m
 | [], [], _, _, _ => rfl
 | [], b :: m, _, _, h => absurd ((h b).2 (List.mem_cons_self ..)) (by simp)
 | a :: l, [], _, _, h => absurd ((h a).1 (List.mem_cons_self ..)) (by simp)
 | a :: l, b :: m, hl, hm, h => by
  obtain ⟨ha, hl⟩ := List.pairwise_cons.1 hl
  obtain ⟨hb, hm'⟩ := List.pairwise_cons.1 hm
  clear hm
  have hab : a = b := by
   rcases List.mem_cons.1 ((h a).1 (List.mem_cons_self ..)) with e | e
   ·exact e
   ·rcases List.mem_cons.1 ((h b).2 (List.mem_cons_self ..)) with e2 | e2
    ·exact e2.symm
    ·exact absurd (htr _ _ _ (hb a e) (ha b e2)) (hirr b)
  subst hab
  congr 1
  refine rise_unique hirr htr hl hm' fun x => ?_
  constructor
  ·intro hx
   rcases List.mem_cons.1 ((h x).1 (List.mem_cons_of_mem _ hx)) with e | e
   ·subst e; exact absurd (ha x hx) (hirr x)
   ·exact e
  ·intro hx
   rcases List.mem_cons.1 ((h x).2 (List.mem_cons_of_mem _ hx)) with e | e
   ·subst e; exact absurd (hb x hx) (hirr x)
   ·exact e
def bestStep (c : α → α → Int) (fit : α → Bool) (best : Option α) (p : α) : Option α :=
 if fit p = true then match best with
  | none => some p
  | some b => if c p b < 0 then some p else some b
 else best
def bestR (c : α → α → Int) (fit : α → Bool) (l : List α) : Option α := l.foldl (bestStep c fit) none
def IsBest (c : α → α → Int) (fit : α → Bool) (S : α → Prop) : Option α → Prop
 | none => ∀ p, S p → fit p = false
 | some b => S b ∧ fit b = true ∧ ∀ p, S p → fit p = true → p = b ∨ c b p < 0
theorem best_fold {c : α → α → Int} {fit : α → Bool} {G : α → Prop} (htot : ∀ a b, G a → G b → a = b ∨ c a b < 0 ∨ c b a < 0) (htr : ∀ a b d, G a → G b → G d → c a b < 0 → c b d < 0 → c a d < 0) (hirr : ∀ a b, G a → G b → c a b < 0 → ¬ c b a < 0) :
  ∀ (l : List α) (S : α → Prop) (best : Option α), (∀ x, S x → G x) → (∀ x ∈ l, G x) → IsBest c fit S best → IsBest c fit (fun x => S x ∨ x ∈ l) (l.foldl (bestStep c fit) best)
 | [], S, best, _, _, h => by
  have e : (fun x => S x ∨ x ∈ ([] : List α)) = S := by funext x; simp
  rw [e]
  exact h
 | p :: l, S, best, hS, hG, h => by
  have hp := hG p (List.mem_cons_self ..)
  have e : (fun x => S x ∨ x ∈ p :: l) = (fun x => (S x ∨ x = p) ∨ x ∈ l) := by funext x; simp [or_assoc]
  rw [e, List.foldl_cons]
  refine best_fold htot htr hirr l (fun x => S x ∨ x = p) _ (fun x hx => by
   rcases hx with hx | rfl
   ·exact hS x hx
   ·exact hp) (fun x hx => hG x (List.mem_cons_of_mem _ hx)) ?_
  unfold bestStep
  by_cases hf : fit p = true
  ·rw [if_pos hf]
   cases best with
   | none =>
    refine ⟨.inr rfl, hf, fun x hx hfx => ?_⟩
    rcases hx with hx | rfl
    ·rw [h x hx] at hfx; cases hfx
    ·exact .inl rfl
   | some b =>
    obtain ⟨hb, hfb, hall⟩ := h
    have hbG := hS b hb
    by_cases hlt : c p b < 0
    ·show IsBest c fit _ (if c p b < 0 then some p else some b)
     rw [if_pos hlt]
     refine ⟨.inr rfl, hf, fun x hx hfx => ?_⟩
     rcases hx with hx | rfl
     ·rcases hall x hx hfx with rfl | h2
      ·exact .inr hlt
      ·exact .inr (htr _ _ _ hp hbG (hS x hx) hlt h2)
     ·exact .inl rfl
    ·show IsBest c fit _ (if c p b < 0 then some p else some b)
     rw [if_neg hlt]
     refine ⟨.inl hb, hfb, fun x hx hfx => ?_⟩
     rcases hx with hx | rfl
     ·exact hall x hx hfx
     ·rcases htot x b hp hbG with e | h2 | h2
      ·exact .inl e
      ·exact absurd h2 hlt
      ·exact .inr h2
  ·rw [if_neg hf]
   cases best with
   | none =>
    intro x hx
    rcases hx with hx | rfl
    ·exact h x hx
    ·simpa using hf
   | some b =>
    obtain ⟨hb, hfb, hall⟩ := h
    refine ⟨.inl hb, hfb, fun x hx hfx => ?_⟩
    rcases hx with hx | rfl
    ·exact hall x hx hfx
    ·exact absurd hfx hf
theorem isBest_unique {c : α → α → Int} {fit : α → Bool} {S : α → Prop} (hirr : ∀ a b, S a → S b → c a b < 0 → ¬ c b a < 0) : ∀ {x y : Option α}, IsBest c fit S x → IsBest c fit S y → x = y
 | none, none, _, _ => rfl
 | none, some b, h, hy => by have := h b hy.1; rw [hy.2.1] at this; cases this
 | some b, none, hx, h => by have := h b hx.1; rw [hx.2.1] at this; cases this
 | some a, some b, hx, hy => by
  rcases hx.2.2 b hy.1 hy.2.1 with e | e
  ·rw [e]
  ·rcases hy.2.2 a hx.1 hx.2.1 with e2 | e2
   ·rw [e2]
   ·exact absurd e2 (hirr _ _ hx.1 hy.1 e)
theorem find_best {c : α → α → Int} {fit : α → Bool} : ∀ {es : List α}, es.Pairwise (fun a b => c a b < 0) → IsBest c fit (· ∈ es) (es.find? fit)
 | [], _ => fun p hp => by simp at hp
 | e :: es, h => by
  obtain ⟨he, hs⟩ := List.pairwise_cons.1 h
  rw [List.find?_cons]
  cases hf : fit e
  ·have ih := find_best (fit := fit) hs
   simp only
   cases hx : es.find? fit with
   | none =>
    rw [hx] at ih
    intro p hp
    rcases List.mem_cons.1 hp with rfl | hp
    ·exact hf
    ·exact ih p hp
   | some b =>
    rw [hx] at ih
    refine ⟨List.mem_cons_of_mem _ ih.1, ih.2.1, fun p hp hfp => ?_⟩
    rcases List.mem_cons.1 hp with rfl | hp
    ·rw [hf] at hfp; cases hfp
    ·exact ih.2.2 p hp hfp
  ·simp only
   refine ⟨List.mem_cons_self .., hf, fun p hp _ => ?_⟩
   rcases List.mem_cons.1 hp with rfl | hp
   ·exact .inl rfl
   ·exact .inr (he p hp)
theorem find_same {c : α → α → Int} {fit : α → Bool} {es l : List α} (hes : es.Pairwise (fun a b => c a b < 0)) (hm : ∀ x, x ∈ es ↔ x ∈ l)
  (htot : ∀ a b, a ∈ l → b ∈ l → a = b ∨ c a b < 0 ∨ c b a < 0) (htr : ∀ a b d, a ∈ l → b ∈ l → d ∈ l → c a b < 0 → c b d < 0 → c a d < 0) (hirr : ∀ a b, a ∈ l → b ∈ l → c a b < 0 → ¬ c b a < 0) :
  es.find? fit = bestR c fit l := by
 have h1 := find_best (c := c) (fit := fit) hes
 have h2 := best_fold (c := c) (fit := fit) (G := (· ∈ l)) htot htr hirr l (fun _ => False) none (fun _ h => h.elim) (fun _ h => h) (fun _ h => h.elim)
 have e1 : (fun x => x ∈ es) = (fun x => x ∈ l) := by funext x; exact propext (hm x)
 have e2 : (fun x => False ∨ x ∈ l) = (fun x => x ∈ l) := by funext x; simp
 rw [e1] at h1
 rw [e2] at h2
 exact isBest_unique hirr h1 h2
def putIn (le : α → α → Bool) (x : α) : List α → List α
 | [] => [x]
 | y :: l => if le x y = true then x :: y :: l else y :: putIn le x l
theorem put_mem {le : α → α → Bool} {x z : α} : ∀ {l : List α}, z ∈ putIn le x l ↔ z = x ∨ z ∈ l
 | [] => by simp [putIn]
 | y :: l => by
  unfold putIn
  split
  ·simp
  ·rw [List.mem_cons, put_mem, List.mem_cons]
   constructor
   ·rintro (h | h | h)
    ·exact .inr (.inl h)
    ·exact .inl h
    ·exact .inr (.inr h)
   ·rintro (h | h | h)
    ·exact .inr (.inl h)
    ·exact .inl h
    ·exact .inr (.inr h)
theorem put_rise {le : α → α → Bool} {lt : α → α → Prop} (hle : ∀ a b, le a b = true → a ≠ b → lt a b) (hnot : ∀ a b, ¬ le a b = true → lt b a) (htr : ∀ a b c, lt a b → lt b c → lt a c) {x : α} :
  ∀ {l : List α}, l.Pairwise lt → x ∉ l → (putIn le x l).Pairwise lt
 | [], _, _ => by simp [putIn]
 | y :: l, h, hx => by
  obtain ⟨hy, hl⟩ := List.pairwise_cons.1 h
  have hxy : x ≠ y := fun e => hx (by rw [e]; exact List.mem_cons_self ..)
  have hxl : x ∉ l := fun e => hx (List.mem_cons_of_mem _ e)
  unfold putIn
  split
  ·rename_i hc
   have h1 := hle _ _ hc hxy
   refine List.pairwise_cons.2 ⟨fun z hz => ?_, h⟩
   rcases List.mem_cons.1 hz with rfl | hz
   ·exact h1
   ·exact htr _ _ _ h1 (hy z hz)
  ·rename_i hc
   refine List.pairwise_cons.2 ⟨fun z hz => ?_, put_rise hle hnot htr hl hxl⟩
   rcases put_mem.1 hz with rfl | hz
   ·exact hnot _ _ hc
   ·exact hy z hz
def rising [DecidableEq α] (le : α → α → Bool) (l : List α) : List α := l.foldl (fun out s => if out.contains s then out else putIn le s out) []
theorem rising_fold [DecidableEq α] {le : α → α → Bool} {lt : α → α → Prop} (hle : ∀ a b, le a b = true → a ≠ b → lt a b) (hnot : ∀ a b, ¬ le a b = true → lt b a) (htr : ∀ a b c, lt a b → lt b c → lt a c) :
  ∀ (l out : List α), out.Pairwise lt → (l.foldl (fun out s => if out.contains s then out else putIn le s out) out).Pairwise lt ∧ ∀ z, z ∈ l.foldl (fun out s => if out.contains s then out else putIn le s out) out ↔ z ∈ out ∨ z ∈ l
 | [], out, h => ⟨h, fun z => by simp⟩
 | s :: l, out, h => by
  rw [List.foldl_cons]
  by_cases hc : out.contains s = true
  ·rw [if_pos hc]
   obtain ⟨h1, h2⟩ := rising_fold hle hnot htr l out h
   refine ⟨h1, fun z => ?_⟩
   rw [h2, List.mem_cons]
   have hs : s ∈ out := by simpa using hc
   constructor
   ·rintro (h | h)
    ·exact .inl h
    ·exact .inr (.inr h)
   ·rintro (h | rfl | h)
    ·exact .inl h
    ·exact .inl hs
    ·exact .inr h
  ·rw [if_neg hc]
   have hs : s ∉ out := by simpa using hc
   obtain ⟨h1, h2⟩ := rising_fold hle hnot htr l (putIn le s out) (put_rise hle hnot htr h hs)
   refine ⟨h1, fun z => ?_⟩
   rw [h2, put_mem, List.mem_cons]
   constructor
   ·rintro ((h | h) | h)
    ·exact .inr (.inl h)
    ·exact .inl h
    ·exact .inr (.inr h)
   ·rintro (h | h | h)
    ·exact .inl (.inr h)
    ·exact .inl (.inl h)
    ·exact .inr h
end
def placesOf {β : Type} (f : β → Bool) : List β → Nat → List Nat
 | [], _ => []
 | x :: l, i => if f x = true then i :: placesOf f l (i + 1) else placesOf f l (i + 1)
theorem places_snoc {β : Type} (f : β → Bool) (x : β) : ∀ (l : List β) (i : Nat), placesOf f (l ++ [x]) i = placesOf f l i ++ (if f x = true then [i + l.length] else [])
 | [], i => by simp [placesOf]
 | y :: l, i => by
  rw [List.cons_append]
  unfold placesOf
  rw [places_snoc f x l (i + 1), List.length_cons]
  have e : i + 1 + l.length = i + (l.length + 1) := by omega
  rw [e]
  split <;> simp
theorem places_mem {β : Type} {f : β → Bool} : ∀ {l : List β} {i k : Nat}, k ∈ placesOf f l i ↔ i ≤ k ∧ ∃ x, l[k - i]? = some x ∧ f x = true
 | [], i, k => by simp [placesOf]
 | y :: l, i, k => by
  unfold placesOf
  have step : (i + 1 ≤ k ∧ ∃ x, l[k - (i + 1)]? = some x ∧ f x = true) ↔ (i < k ∧ ∃ x, (y :: l)[k - i]? = some x ∧ f x = true) := by
   constructor
   ·rintro ⟨h, x, hx, hf⟩
    exact ⟨h, x, by rw [show k - i = (k - (i + 1)) + 1 by omega, List.getElem?_cons_succ]; exact hx, hf⟩
   ·rintro ⟨h, x, hx, hf⟩
    rw [show k - i = (k - (i + 1)) + 1 by omega, List.getElem?_cons_succ] at hx
    exact ⟨h, x, hx, hf⟩
  by_cases hy : f y = true
  ·rw [if_pos hy, List.mem_cons, places_mem, step]
   constructor
   ·rintro (rfl | ⟨h, h2⟩)
    ·exact ⟨Nat.le_refl _, y, by simp, hy⟩
    ·exact ⟨Nat.le_of_lt h, h2⟩
   ·rintro ⟨h, h2⟩
    rcases Nat.lt_or_eq_of_le h with h | rfl
    ·exact .inr ⟨h, h2⟩
    ·exact .inl rfl
  ·rw [if_neg hy, places_mem, step]
   constructor
   ·rintro ⟨h, h2⟩; exact ⟨Nat.le_of_lt h, h2⟩
   ·rintro ⟨h, x, hx, hf⟩
    rcases Nat.lt_or_eq_of_le h with h | rfl
    ·exact ⟨h, x, hx, hf⟩
    ·simp at hx; subst hx; exact absurd hf hy
end Go.Proofs.YtiohmnhbmmhnhaaGreatDoor
namespace Go.Proofs.YtiohmnhbmmhnhaaGreatDoor
def firstP {β : Type} (f : β → Bool) : List β → Nat → Option Nat
 | [], _ => none
 | x :: l, i => if f x = true then some i else firstP f l (i + 1)
theorem first_places {β : Type} (f g : β → Bool) : ∀ (l pre : List β), (placesOf g l pre.length).find? (fun k => ((pre ++ l)[k]?).any f) = firstP (fun x => g x && f x) l pre.length
 | [], _ => rfl
 | x :: l, pre => by
  have ih := first_places f g l (pre ++ [x])
  rw [List.append_assoc] at ih
  have e : pre ++ ([x] ++ l) = pre ++ x :: l := rfl
  rw [e, List.length_append] at ih
  have e2 : pre.length + [x].length = pre.length + 1 := rfl
  rw [e2] at ih
  unfold placesOf firstP
  have hx : ((pre ++ x :: l)[pre.length]?).any f = f x := by
   rw [List.getElem?_append_right (Nat.le_refl _), Nat.sub_self]
   rfl
  by_cases hg : g x = true
  ·rw [if_pos hg, List.find?_cons, hx, hg, Bool.true_and]
   by_cases hf : f x = true
   ·rw [hf]; rfl
   ·rw [if_neg hf, eq_false_of_ne_true hf, ← ih]
  ·rw [if_neg hg, ih]
   have : (g x && f x) = false := by rw [eq_false_of_ne_true hg]; rfl
   rw [this, if_neg (by decide)]
theorem first_all {β : Type} (f g : β → Bool) (l : List β) : (placesOf g l 0).find? (fun k => (l[k]?).any f) = firstP (fun x => g x && f x) l 0 := first_places f g l []
def mGet : ByteArray := ⟨#[71, 69, 84]⟩
def mHead : ByteArray := ⟨#[72, 69, 65, 68]⟩
def mOpt : ByteArray := ⟨#[79, 80, 84, 73, 79, 78, 83]⟩
def orElse3 (a b c : Option Nat) : Int := match a with
 | some i => (i : Int)
 | none => match b with
  | some i => (i : Int)
  | none => match c with
   | some i => (i : Int)
   | none => -1
def foundP (l : List Rt) (nums : List Nat) (method : ByteArray) : Int :=
 orElse3 (nums.find? fun k => (l[k]?).any fun r => inL r.1 method)
  (if method = mHead then nums.find? fun k => (l[k]?).any fun r => inL r.1 mGet else none)
  (nums.find? fun k => (l[k]?).any fun r => decide (r.1.length = 0))
def servingR (l : List Rt) (pattern method : ByteArray) : Int :=
 orElse3 (firstP (fun r => decide (r.2 = pattern) && inL r.1 method) l 0)
  (firstP (fun r => decide (r.2 = pattern) && (decide (method = mHead) && inL r.1 mGet)) l 0)
  (firstP (fun r => decide (r.2 = pattern) && decide (r.1.length = 0)) l 0)
theorem firstP_no {β : Type} {f : β → Bool} : ∀ (l : List β) (i : Nat), (∀ x, f x = false) → firstP f l i = none
 | [], _, _ => rfl
 | x :: l, i, h => by
  unfold firstP
  rw [h x, if_neg (by decide)]
  exact firstP_no l (i + 1) h
theorem serving_same (l : List Rt) (pattern method : ByteArray) : foundP l (placesOf (fun r : Rt => decide (r.2 = pattern)) l 0) method = servingR l pattern method := by
 unfold foundP servingR
 have e1 := first_all (fun r : Rt => inL r.1 method) (fun r : Rt => decide (r.2 = pattern)) l
 have e2 := first_all (fun r : Rt => inL r.1 mGet) (fun r : Rt => decide (r.2 = pattern)) l
 have e3 := first_all (fun r : Rt => decide (r.1.length = 0)) (fun r : Rt => decide (r.2 = pattern)) l
 rw [e1, e2, e3]
 congr 1
 by_cases h : method = mHead
 ·rw [if_pos h, decide_eq_true h]
  simp only [Bool.true_and]
 ·rw [if_neg h, firstP_no l 0 fun x => by rw [decide_eq_false h]; simp]
def InAllow (l : List Rt) (nums : List Nat) (s : ByteArray) : Prop :=
 s = mOpt ∨ (∃ k ∈ nums, ∃ r, l[k]? = some r ∧ s ∈ r.1) ∨ (s = mHead ∧ ∃ k ∈ nums, ∃ r, l[k]? = some r ∧ mGet ∈ r.1)
def allR (l : List Rt) (g : Rt → Bool) : List ByteArray := (l.filter g).flatMap (·.1)
def withL (ms : List ByteArray) : List ByteArray := ms ++ [mOpt] ++ (if inL ms mGet then [mHead] else [])
theorem all_mem {l : List Rt} {g : Rt → Bool} {s : ByteArray} : s ∈ allR l g ↔ ∃ k ∈ placesOf g l 0, ∃ r, l[k]? = some r ∧ s ∈ r.1 := by
 unfold allR
 rw [List.mem_flatMap]
 constructor
 ·rintro ⟨r, hr, hs⟩
  obtain ⟨hm, hg⟩ := List.mem_filter.1 hr
  obtain ⟨k, hk, rfl⟩ := List.getElem_of_mem hm
  exact ⟨k, places_mem.2 ⟨Nat.zero_le _, l[k], List.getElem?_eq_getElem hk, hg⟩, l[k], List.getElem?_eq_getElem hk, hs⟩
 ·rintro ⟨k, hk, r, hr, hs⟩
  obtain ⟨_, x, hx, hg⟩ := places_mem.1 hk
  rw [Nat.sub_zero, hr] at hx
  obtain rfl := Option.some.inj hx
  exact ⟨r, List.mem_filter.2 ⟨List.mem_of_getElem? hr, hg⟩, hs⟩
theorem with_mem {l : List Rt} {g : Rt → Bool} {s : ByteArray} : s ∈ withL (allR l g) ↔ InAllow l (placesOf g l 0) s := by
 unfold withL InAllow
 rw [List.mem_append, List.mem_append, all_mem]
 have h2 : s ∈ (if inL (allR l g) mGet then [mHead] else []) ↔ s = mHead ∧ mGet ∈ allR l g := by
  by_cases h : inL (allR l g) mGet = true
  ·rw [if_pos h]
   have : mGet ∈ allR l g := inL_iff.1 h
   simp [this]
  ·rw [if_neg h]
   have : ¬ mGet ∈ allR l g := fun e => h (inL_iff.2 e)
   simp [this]
 rw [h2, all_mem]
 simp only [List.mem_singleton]
 constructor
 ·rintro ((h | h) | h)
  ·exact .inr (.inl h)
  ·exact .inl h
  ·exact .inr (.inr h)
 ·rintro (h | h | h)
  ·exact .inl (.inr h)
  ·exact .inl (.inl h)
  ·exact .inr h
theorem allow_same {le : ByteArray → ByteArray → Bool} {lt : ByteArray → ByteArray → Prop} (hle : ∀ a b, le a b = true → a ≠ b → lt a b) (hnot : ∀ a b, ¬ le a b = true → lt b a) (hirr : ∀ a, ¬ lt a a) (htr : ∀ a b c, lt a b → lt b c → lt a c)
  {l : List Rt} {g : Rt → Bool} {out : List ByteArray} (ho : out.Pairwise lt) (hm : ∀ s, s ∈ out ↔ InAllow l (placesOf g l 0) s) : out = rising le (withL (allR l g)) := by
 obtain ⟨h1, h2⟩ := rising_fold hle hnot htr (withL (allR l g)) [] List.Pairwise.nil
 refine rise_unique hirr htr ho h1 fun s => ?_
 rw [hm, ← with_mem]
 show _ ↔ s ∈ List.foldl _ [] _
 rw [h2]
 simp
structure TabR (l : List Rt) (es : List (ByteArray × List Nat)) : Prop where
 mem : ∀ p, (∃ x ∈ es, x.1 = p) ↔ ∃ r ∈ l, r.2 = p
 nums : ∀ x ∈ es, x.2 = placesOf (fun r : Rt => decide (r.2 = x.1)) l 0
theorem TabR.nil : TabR [] [] := ⟨fun p => by simp, fun x hx => by simp at hx⟩
theorem places_none {β : Type} {f : β → Bool} : ∀ {l : List β} {i : Nat}, (∀ x ∈ l, f x = false) → placesOf f l i = []
 | [], _, _ => rfl
 | x :: l, i, h => by
  unfold placesOf
  rw [h x (List.mem_cons_self ..), if_neg (by decide)]
  exact places_none fun y hy => h y (List.mem_cons_of_mem _ hy)
theorem TabR.step {l : List Rt} {es es2 : List (ByteArray × List Nat)} {r : Rt} {ns : List Nat} (h : TabR l es) (hin : ∀ x ∈ es, x.1 = r.2 → ns = x.2) (hout : (∀ x ∈ es, x.1 ≠ r.2) → ns = [])
  (h2 : ∀ x, x ∈ es2 ↔ x = (r.2, ns ++ [l.length]) ∨ (x ∈ es ∧ x.1 ≠ r.2)) : TabR (l ++ [r]) es2 := by
 have hns : ns = placesOf (fun y : Rt => decide (y.2 = r.2)) l 0 := by
  by_cases he : ∃ x ∈ es, x.1 = r.2
  ·obtain ⟨x, hx, e⟩ := he
   rw [hin x hx e, h.nums x hx, e]
  ·rw [hout fun x hx e => he ⟨x, hx, e⟩]
   refine (places_none fun y hy => decide_eq_false fun e => he ((h.mem r.2).2 ⟨y, hy, e⟩)).symm
 refine ⟨fun p => ?_, fun x hx => ?_⟩
 ·constructor
  ·rintro ⟨x, hx, rfl⟩
   rcases (h2 x).1 hx with rfl | ⟨hx, _⟩
   ·exact ⟨r, by simp, rfl⟩
   ·obtain ⟨y, hy, e⟩ := (h.mem x.1).1 ⟨x, hx, rfl⟩
    exact ⟨y, List.mem_append_left _ hy, e⟩
  ·rintro ⟨y, hy, rfl⟩
   by_cases e : y.2 = r.2
   ·exact ⟨_, (h2 _).2 (.inl rfl), e.symm⟩
   ·rcases List.mem_append.1 hy with hy | hy
    ·obtain ⟨x, hx, ex⟩ := (h.mem y.2).2 ⟨y, hy, rfl⟩
     exact ⟨x, (h2 x).2 (.inr ⟨hx, by rw [ex]; exact e⟩), ex⟩
    ·simp at hy
     exact absurd (by rw [hy]) e
 ·rcases (h2 x).1 hx with rfl | ⟨hx, hne⟩
  ·show ns ++ [l.length] = _
   rw [places_snoc, hns, if_pos (decide_eq_true rfl), Nat.zero_add]
  ·rw [places_snoc, if_neg (by rw [decide_eq_false fun e => hne e.symm]; decide), List.append_nil]
   exact h.nums x hx
def otherP (s : ByteArray) : ByteArray := if 0 < s.size ∧ bt s (s.size - 1) = 47 then s.extract 0 (s.size - 1) else s ++ (⟨#[47]⟩ : ByteArray)
end Go.Proofs.YtiohmnhbmmhnhaaGreatDoor
