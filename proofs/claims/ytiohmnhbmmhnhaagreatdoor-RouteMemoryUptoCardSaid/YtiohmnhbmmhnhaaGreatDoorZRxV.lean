/-
 RxV, without what this claim does not reach.
-/
import Derived.Test.YtiohmnhbmmhnhaaGreatDoorZRxP
import Derived.Test.YtiohmnhbmmhnhaaGreatDoorZTgT
namespace Go.Proofs.YtiohmnhbmmhnhaaGreatDoor
abbrev Pw := Nat × List Pc
def txt (x : Pw) : ByteArray := match x.2 with
 | [] => ⟨#[]⟩
 | p :: _ => p.2
def preB (s p : ByteArray) : Bool := Lib.hasPrefix s.data.toList p.data.toList
theorem preB_empty {y t : ByteArray} (h : t.size = 0) : preB y t = true := by
 unfold preB Lib.hasPrefix
 have : t.data.toList = [] := by
  apply List.eq_nil_of_length_eq_zero
  rw [size_eq]
  exact h
 rw [this]
 simp
def shrink (y : ByteArray) : Nat → ByteArray → ByteArray
 | 0, t => t
 | n + 1, t => if preB y t = true then t else shrink y n (t.extract 0 (t.size - 1))
def comOne (y t : ByteArray) : ByteArray := shrink y t.size t
theorem comOne_yes {y t : ByteArray} (h : preB y t = true) : comOne y t = t := by
 unfold comOne
 cases t.size with
 | zero => rfl
 | succ n => exact if_pos h
theorem comOne_no {y t : ByteArray} (h : preB y t = false) : 0 < t.size ∧ comOne y t = comOne y (t.extract 0 (t.size - 1)) := by
 have hp : 0 < t.size := by
  by_cases e : t.size = 0
  ·rw [preB_empty e] at h; cases h
  ·omega
 refine ⟨hp, ?_⟩
 have hz := ext_size t (a := 0) (b := t.size - 1) (by omega) (by omega)
 unfold comOne
 rw [hz]
 obtain ⟨n, hn⟩ : ∃ n, t.size = n + 1 := ⟨t.size - 1, by omega⟩
 conv => lhs; rw [hn]; unfold shrink
 rw [if_neg (by rw [h]; simp), show t.size - 1 - 0 = n by omega]
theorem comOne_spec (y : ByteArray) : ∀ (n : Nat) (t : ByteArray), t.size ≤ n → (comOne y t).size ≤ t.size ∧ preB y (comOne y t) = true
 | n, t, hn => by
  cases h : preB y t
  ·obtain ⟨h0, h1⟩ := comOne_no h
   have hz := ext_size t (a := 0) (b := t.size - 1) (by omega) (by omega)
   match n, hn with
   | 0, hn => omega
   | n + 1, hn =>
    obtain ⟨a, b⟩ := comOne_spec y n (t.extract 0 (t.size - 1)) (by omega)
    rw [h1]
    exact ⟨by omega, b⟩
  ·rw [comOne_yes h]
   exact ⟨Nat.le_refl _, h⟩
theorem preB_size {y t : ByteArray} (h : preB y t = true) : t.size ≤ y.size := by
 unfold preB Lib.hasPrefix at h
 have h1 := (List.isPrefixOf_iff_prefix.1 h).length_le
 rw [size_eq, size_eq] at h1
 exact h1
def commonP (l : List Pw) : ByteArray := match l with
 | [] => ⟨#[]⟩
 | x :: l => (x :: l).foldl (fun t x => comOne (txt x) t) (txt x)
def cutOne (n : Nat) (x : Pw) : Pw := (x.1, if ((txt x).extract n (txt x).size).size = 0 then x.2.tail else (0, (txt x).extract n (txt x).size) :: x.2.tail)
def cutP (n : Nat) (l : List Pw) : List Pw := l.map (cutOne n)
theorem foldl_le (l : List Pw) : ∀ (t : ByteArray), (l.foldl (fun t x => comOne (txt x) t) t).size ≤ t.size := by
 induction l with
 | nil => exact fun t => Nat.le_refl _
 | cons x l ih => exact fun t => Nat.le_trans (ih _) (comOne_spec (txt x) _ t (Nat.le_refl _)).1
theorem foldl_all {l : List Pw} : ∀ (t : ByteArray), ∀ x ∈ l, (l.foldl (fun t x => comOne (txt x) t) t).size ≤ (txt x).size := by
 induction l with
 | nil => intro t x hx; cases hx
 | cons y l ih =>
  intro t x hx
  rw [List.foldl_cons]
  rcases List.mem_cons.1 hx with rfl | hx
  ·have h1 := foldl_le l (comOne (txt x) t)
   have h2 := preB_size (comOne_spec (txt x) _ t (Nat.le_refl _)).2
   omega
  ·exact ih _ x hx
theorem common_all {l : List Pw} {x : Pw} (hx : x ∈ l) : (commonP l).size ≤ (txt x).size := by
 cases l with
 | nil => cases hx
 | cons y l => exact foldl_all (l := y :: l) _ x hx
end Go.Proofs.YtiohmnhbmmhnhaaGreatDoor
namespace Go.Proofs.YtiohmnhbmmhnhaaGreatDoor
def slashR : ByteArray := ⟨#[47]⟩
def stepsGo : List Pc → Nat → ByteArray → List Pc → List Pc
 | [], _, t, out => if t.size = 0 then out else out ++ [(0, t)]
 | p :: l, k, t, out => if p.1 = 0 then stepsGo l (k + 1) ((if k = 0 then t else t ++ slashR) ++ p.2) out
  else stepsGo l (k + 1) ⟨#[]⟩ ((if (if k = 0 then t else t ++ slashR).size = 0 then out else out ++ [(0, if k = 0 then t else t ++ slashR)]) ++ [p])
def stepsP (l : List Pc) : List Pc := stepsGo l 0 ⟨#[]⟩ []
def totP (l : List Pc) : Nat := (l.map fun p => p.2.size + 1).sum
theorem totP_cons (p : Pc) (l : List Pc) : totP (p :: l) = p.2.size + 1 + totP l := by simp [totP]
theorem totP_len (l : List Pc) : l.length ≤ totP l := by
 induction l with
 | nil => exact Nat.le_refl _
 | cons p l ih => rw [totP_cons, List.length_cons]; omega
theorem slash_size (t : ByteArray) : (t ++ slashR).size = t.size + 1 := ByteArray.size_append
section
variable {p : Pc} {l out : List Pc} {k : Nat} {t : ByteArray}
theorem steps_first_text (h : p.1 = 0) (h0 : k = 0) : stepsGo (p :: l) k t out = stepsGo l (k + 1) (t ++ p.2) out := by
 conv => lhs; unfold stepsGo
 rw [if_pos h, if_pos h0]
theorem steps_text (h : p.1 = 0) (h0 : ¬ k = 0) : stepsGo (p :: l) k t out = stepsGo l (k + 1) (t ++ slashR ++ p.2) out := by
 conv => lhs; unfold stepsGo
 rw [if_pos h, if_neg h0]
theorem steps_first_edge (h : ¬ p.1 = 0) (h0 : k = 0) (ht : t.size = 0) : stepsGo (p :: l) k t out = stepsGo l (k + 1) ⟨#[]⟩ (out ++ [p]) := by
 conv => lhs; unfold stepsGo
 rw [if_neg h, if_pos h0, if_pos ht]
theorem steps_edge (h : ¬ p.1 = 0) (h0 : ¬ k = 0) : stepsGo (p :: l) k t out = stepsGo l (k + 1) ⟨#[]⟩ (out ++ [(0, t ++ slashR)] ++ [p]) := by
 conv => lhs; unfold stepsGo
 rw [if_neg h, if_neg h0, if_neg (by rw [slash_size]; omega)]
theorem steps_end (ht : t.size = 0) : stepsGo [] k t out = out := if_pos ht
theorem steps_end_text (ht : ¬ t.size = 0) : stepsGo [] k t out = out ++ [(0, t)] := if_neg ht
end
theorem drop_of_some {α : Type} {l : List α} {k : Nat} {x : α} (h : l[k]? = some x) : l.drop k = x :: l.drop (k + 1) := by
 obtain ⟨hk, hx⟩ := List.getElem?_eq_some_iff.1 h
 rw [List.drop_eq_getElem_cons hk, hx]
end Go.Proofs.YtiohmnhbmmhnhaaGreatDoor
namespace Go.Proofs.YtiohmnhbmmhnhaaGreatDoor
inductive Tr where
 | none : Tr
 | node (ends : Nat) (kids param rest : Tr) : Tr
 | kid (text : ByteArray) (t more : Tr) : Tr
def totS (l : List Pc) : Nat := (l.map fun p => p.2.size + 1).sum
def meas (ws : List Pw) : Nat := (ws.map fun x => totS x.2).sum
def endsP (ws : List Pw) : Nat := ws.foldl (fun e x => match x.2 with | [] => x.1 + 1 | _ => e) 0
def edgeOne (k : Int) (x : Pw) : List Pw := match x.2 with
 | [] => []
 | p :: r => if p.1 = k then [(x.1, r)] else []
def edgeP (k : Int) (ws : List Pw) : List Pw := ws.flatMap (edgeOne k)
def groupOne (c : Nat) (x : Pw) : List Pw := match x.2 with
 | [] => []
 | p :: _ => if p.1 = 1 ∨ p.1 = 2 then [] else if bt p.2 0 = c then [x] else []
def groupP (c : Nat) (ws : List Pw) : List Pw := ws.flatMap (groupOne c)
def kidOne (B : List Pw → Tr) (g : List Pw) : List (ByteArray × Tr) := if g = [] then [] else [(commonP g, B (cutP (commonP g).size g))]
def kidsL (B : List Pw → Tr) (ws : List Pw) : Nat → List (ByteArray × Tr)
 | 0 => []
 | c + 1 => kidsL B ws c ++ kidOne B (groupP c ws)
def chain : List (ByteArray × Tr) → Tr
 | [] => .none
 | x :: l => .kid x.1 x.2 (chain l)
def edgeT (B : List Pw → Tr) (l : List Pw) : Tr := if l = [] then .none else B l
def buildP : Nat → List Pw → Tr
 | 0, _ => .none
 | n + 1, ws => .node (endsP ws) (chain (kidsL (buildP n) ws 256)) (edgeT (buildP n) (edgeP 1 ws)) (edgeT (buildP n) (edgeP 2 ws))
def wfS (l : List Pc) : Prop := ∀ p ∈ l, p.1 = 0 → 0 < p.2.size
def wfW (ws : List Pw) : Prop := ∀ x ∈ ws, wfS x.2 ∧ ∀ p ∈ x.2, p.1 = 0 ∨ p.1 = 1 ∨ p.1 = 2
theorem endsP_snoc (ws : List Pw) (x : Pw) : endsP (ws ++ [x]) = match x.2 with | [] => x.1 + 1 | _ => endsP ws := by
 unfold endsP
 rw [List.foldl_append]
 rfl
theorem edgeP_snoc (k : Int) (ws : List Pw) (x : Pw) : edgeP k (ws ++ [x]) = edgeP k ws ++ edgeOne k x := by simp [edgeP]
theorem groupP_snoc (c : Nat) (ws : List Pw) (x : Pw) : groupP c (ws ++ [x]) = groupP c ws ++ groupOne c x := by simp [groupP]
theorem meas_cons (x : Pw) (ws : List Pw) : meas (x :: ws) = totS x.2 + meas ws := by simp [meas]
theorem totS_cons (p : Pc) (l : List Pc) : totS (p :: l) = p.2.size + 1 + totS l := by simp [totS]
theorem edge_meas (k : Int) (ws : List Pw) : meas (edgeP k ws) + (edgeP k ws).length ≤ meas ws := by
 induction ws with
 | nil => exact Nat.le_refl _
 | cons x ws ih =>
  have e : edgeP k (x :: ws) = edgeOne k x ++ edgeP k ws := rfl
  rw [e, meas_cons]
  obtain ⟨i, l⟩ := x
  cases l with
  | nil =>
   show meas (edgeP k ws) + _ ≤ _
   have : (edgeOne k (i, ([] : List Pc)) ++ edgeP k ws).length = (edgeP k ws).length := rfl
   omega
  | cons p r =>
   unfold edgeOne
   dsimp only
   split
   ·rw [List.cons_append, meas_cons, List.length_cons, totS_cons]
    simp only [List.nil_append]
    omega
   ·rw [List.nil_append]
    omega
theorem group_mem {c : Nat} {ws : List Pw} {x : Pw} (h : x ∈ groupP c ws) : x ∈ ws ∧ ∃ p r, x.2 = p :: r ∧ ¬ p.1 = 1 ∧ ¬ p.1 = 2 ∧ bt p.2 0 = c := by
 unfold groupP at h
 obtain ⟨y, hy, hx⟩ := List.mem_flatMap.1 h
 unfold groupOne at hx
 split at hx
 ·cases hx
 ·rename_i p r e
  split at hx
  ·cases hx
  ·rename_i hn
   split at hx
   ·rename_i hb
    obtain rfl : x = y := by simpa using hx
    exact ⟨hy, p, r, e, fun h => hn (.inl h), fun h => hn (.inr h), hb⟩
   ·cases hx
theorem group_meas (c : Nat) (ws : List Pw) : meas (groupP c ws) ≤ meas ws := by
 induction ws with
 | nil => exact Nat.le_refl _
 | cons x ws ih =>
  have e : groupP c (x :: ws) = groupOne c x ++ groupP c ws := rfl
  rw [e, meas_cons]
  have h2 : groupOne c x = [] ∨ groupOne c x = [x] := by
   unfold groupOne
   split
   ·exact .inl rfl
   ·split
    ·exact .inl rfl
    ·split
     ·exact .inr rfl
     ·exact .inl rfl
  rcases h2 with h | h
  ·rw [h, List.nil_append]; omega
  ·rw [h, List.cons_append, List.nil_append, meas_cons]; omega
theorem cut_meas_one {n : Nat} {x : Pw} (hx : x.2 ≠ []) (hn : n ≤ (txt x).size) (h1 : 1 ≤ n) : totS (cutOne n x).2 + 1 ≤ totS x.2 := by
 obtain ⟨i, l⟩ := x
 cases l with
 | nil => exact absurd rfl hx
 | cons p r =>
  have ht : txt (i, p :: r) = p.2 := rfl
  rw [ht] at hn
  have hz := ext_size p.2 (a := n) (b := p.2.size) hn (Nat.le_refl _)
  unfold cutOne
  dsimp only
  rw [ht]
  split
  ·rw [List.tail_cons, totS_cons]; omega
  ·rw [List.tail_cons, totS_cons, totS_cons]
   dsimp only
   omega
theorem cut_meas {n : Nat} {ws : List Pw} (h : ∀ x ∈ ws, x.2 ≠ [] ∧ n ≤ (txt x).size) (h1 : 1 ≤ n) : meas (cutP n ws) + ws.length ≤ meas ws := by
 induction ws with
 | nil => exact Nat.le_refl _
 | cons x ws ih =>
  have e : cutP n (x :: ws) = cutOne n x :: cutP n ws := rfl
  rw [e, meas_cons, meas_cons, List.length_cons]
  have h2 := h x (List.mem_cons_self ..)
  have h3 := cut_meas_one h2.1 h2.2 h1
  have h4 := ih fun y hy => h y (List.mem_cons_of_mem _ hy)
  omega
theorem wfW.mem {ws ws' : List Pw} (h : wfW ws) (hs : ∀ x ∈ ws', x ∈ ws) : wfW ws' := fun x hx => h x (hs x hx)
theorem wfW.edge {k : Int} {ws : List Pw} (h : wfW ws) : wfW (edgeP k ws) := fun x hx => by
 unfold edgeP at hx
 obtain ⟨y, hy, hx⟩ := List.mem_flatMap.1 hx
 unfold edgeOne at hx
 split at hx
 ·cases hx
 ·rename_i p r e
  split at hx
  ·obtain rfl : x = (y.1, r) := by simpa using hx
   obtain ⟨h1, h2⟩ := h y hy
   rw [e] at h1 h2
   exact ⟨fun q hq => h1 q (List.mem_cons_of_mem _ hq), fun q hq => h2 q (List.mem_cons_of_mem _ hq)⟩
  ·cases hx
theorem wfW.group {c : Nat} {ws : List Pw} (h : wfW ws) : wfW (groupP c ws) := h.mem fun _ hx => (group_mem hx).1
theorem wfW.cut {n : Nat} {ws : List Pw} (h : wfW ws) : wfW (cutP n ws) := fun x hx => by
 unfold cutP at hx
 obtain ⟨y, hy, rfl⟩ := List.mem_map.1 hx
 obtain ⟨h1, h2⟩ := h y hy
 have ht : ∀ q, q ∈ y.2.tail → q ∈ y.2 := fun q hq => List.mem_of_mem_tail hq
 unfold cutOne
 dsimp only
 split
 ·exact ⟨fun q hq => h1 q (ht q hq), fun q hq => h2 q (ht q hq)⟩
 ·rename_i hz
  refine ⟨fun q hq h0 => ?_, fun q hq => ?_⟩
  ·rcases List.mem_cons.1 hq with rfl | hq
   ·show 0 < ((txt y).extract n (txt y).size).size
    omega
   ·exact h1 q (ht q hq) h0
  ·rcases List.mem_cons.1 hq with rfl | hq
   ·exact .inl rfl
   ·exact h2 q (ht q hq)
theorem comOne_pos {y t : ByteArray} (hy : 0 < y.size) (hb : bt y 0 = bt t 0) : ∀ (n : Nat), t.size ≤ n → 0 < t.size → 0 < (comOne y t).size ∧ bt (comOne y t) 0 = bt t 0
 | n, hn, ht => by
  cases h : preB y t
  ·obtain ⟨_, h1⟩ := comOne_no h
   by_cases h2 : t.size = 1
   ·exfalso
    have hp : preB y t = true := by
     unfold preB Lib.hasPrefix
     obtain ⟨yl, hyl⟩ : ∃ a l, y.data.toList = a :: l := by
      cases e : y.data.toList with
      | nil => have := size_eq y; rw [e] at this; simp at this; omega
      | cons a l => exact ⟨a, l, rfl⟩
     obtain ⟨l, hyl⟩ := hyl
     obtain ⟨a2, htl⟩ : ∃ a, t.data.toList = [a] := by
      have hl := size_eq t
      cases e : t.data.toList with
      | nil => rw [e] at hl; simp at hl; omega
      | cons a l =>
       rw [e] at hl
       cases l with
       | nil => exact ⟨a, rfl⟩
       | cons b l => simp at hl; omega
     unfold bt at hb
     rw [hyl, htl] at hb ⊢
     simp at hb
     have : yl = a2 := by
      apply UInt8.toNat_inj.1
      exact Int.ofNat_inj.1 hb
     rw [this]
     simp
    rw [hp] at h
    cases h
   ·have hz := ext_size t (a := 0) (b := t.size - 1) (by omega) (by omega)
    have hb0 := ext_bt t (a := 0) (b := t.size - 1) (j := 0) (by omega)
    rw [Nat.zero_add] at hb0
    match n, hn with
    | 0, hn => omega
    | n + 1, hn =>
     rw [h1]
     obtain ⟨a, b⟩ := comOne_pos (y := y) (t := t.extract 0 (t.size - 1)) hy (by rw [hb0]; exact hb) n (by omega) (by omega)
     exact ⟨a, by rw [b, hb0]⟩
  ·rw [comOne_yes h]
   exact ⟨ht, rfl⟩
theorem foldl_pos {c : Int} : ∀ (l : List Pw), (∀ x ∈ l, 0 < (txt x).size ∧ bt (txt x) 0 = c) → ∀ t : ByteArray, 0 < t.size → bt t 0 = c → 0 < (l.foldl (fun t x => comOne (txt x) t) t).size
 | [], _, t, ht, _ => ht
 | x :: l, h, t, ht, hc => by
  rw [List.foldl_cons]
  obtain ⟨h1, h2⟩ := h x (List.mem_cons_self ..)
  obtain ⟨a, b⟩ := comOne_pos (y := txt x) (t := t) h1 (by rw [h2, hc]) _ (Nat.le_refl _) ht
  exact foldl_pos l (fun y hy => h y (List.mem_cons_of_mem _ hy)) _ a (by rw [b, hc])
theorem common_pos {c : Nat} {ws : List Pw} (hw : wfW ws) (hne : groupP c ws ≠ []) : 0 < (commonP (groupP c ws)).size := by
 have h : ∀ x ∈ groupP c ws, 0 < (txt x).size ∧ bt (txt x) 0 = (c : Int) := fun x hx => by
  obtain ⟨hm, p, r, e, h1, h2, h3⟩ := group_mem hx
  obtain ⟨w1, w2⟩ := hw x hm
  rw [e] at w1 w2
  have hk := w2 p (List.mem_cons_self ..)
  have ht : txt x = p.2 := by unfold txt; rw [e]
  rw [ht]
  exact ⟨w1 p (List.mem_cons_self ..) (by omega), h3⟩
 cases e : groupP c ws with
 | nil => exact absurd e hne
 | cons x l =>
  rw [e] at h
  obtain ⟨a, b⟩ := h x (List.mem_cons_self ..)
  exact foldl_pos (x :: l) h (txt x) a b
end Go.Proofs.YtiohmnhbmmhnhaaGreatDoor
namespace Go.Proofs.YtiohmnhbmmhnhaaGreatDoor
def bl (s : ByteArray) : List Nat := s.data.toList.map UInt8.toNat
def symP (p : Pc) : List Nat := if p.1 = 1 then [1000] else if p.1 = 2 then [1001] else bl p.2
def symS (l : List Pc) : List Nat := l.flatMap symP
theorem symS_cons (p : Pc) (l : List Pc) : symS (p :: l) = symP p ++ symS l := rfl
theorem symS_append (l m : List Pc) : symS (l ++ m) = symS l ++ symS m := by simp [symS]
theorem bl_length (s : ByteArray) : (bl s).length = s.size := by unfold bl; rw [List.length_map, size_eq]
theorem bl_append (s t : ByteArray) : bl (s ++ t) = bl s ++ bl t := by
 unfold bl
 rw [ByteArray.data_append, Array.toList_append, List.map_append]
theorem bl_extract (s : ByteArray) (a b : Nat) : bl (s.extract a b) = ((bl s).take b).drop a := by
 unfold bl
 rw [ByteArray.data_extract, Array.toList_extract, List.extract_eq_take_drop, List.map_take, List.map_drop]
 rw [List.take_drop]
 by_cases h : a ≤ b
 ·rw [show a + (b - a) = b by omega]
 ·rw [show a + (b - a) = a by omega]
  rw [List.drop_eq_nil_of_le (by rw [List.length_take]; omega), List.drop_eq_nil_of_le (by rw [List.length_take]; omega)]
theorem bl_lt {s : ByteArray} {c : Nat} (h : c ∈ bl s) : c < 256 := by
 unfold bl at h
 obtain ⟨b, _, rfl⟩ := List.mem_map.1 h
 exact UInt8.toNat_lt b
theorem bl_zero {s : ByteArray} : bl s = [] ↔ s.size = 0 := by
 rw [← bl_length]
 exact List.length_eq_zero_iff.symm
theorem bl_inj {s t : ByteArray} (h : bl s = bl t) : s = t := by
 unfold bl at h
 have h2 := (List.map_inj_right (fun a b e => UInt8.toNat_inj.1 e)).1 h
 apply ByteArray.ext
 exact Array.toList_inj.1 h2
theorem bl_head {s : ByteArray} (h : 0 < s.size) : ∃ c r, bl s = c :: r ∧ bt s 0 = (c : Int) := by
 unfold bl bt
 have h2 := size_eq s
 cases e : s.data.toList with
 | nil => rw [e] at h2; simp at h2; omega
 | cons a l => exact ⟨a.toNat, l.map UInt8.toNat, rfl, rfl⟩
theorem preB_bl {s p : ByteArray} : preB s p = true ↔ bl p <+: bl s := by
 unfold preB Lib.hasPrefix bl
 rw [List.isPrefixOf_iff_prefix]
 constructor
 ·rintro ⟨r, hr⟩
  exact ⟨r.map UInt8.toNat, by rw [← hr, List.map_append]⟩
 ·rintro ⟨r, hr⟩
  obtain ⟨a, b, e, ha, hb⟩ := List.map_eq_append_iff.1 hr.symm
  have := (List.map_inj_right (fun a b e => UInt8.toNat_inj.1 e)).1 ha
  exact ⟨b, by rw [e, this]⟩
def segN : List Nat → Nat
 | [] => 0
 | c :: l => if c = 47 then 0 else segN l + 1
theorem segN_le : ∀ l : List Nat, segN l ≤ l.length
 | [] => Nat.le_refl _
 | c :: l => by
  unfold segN
  split
  ·exact Nat.zero_le _
  ·have := segN_le l; rw [List.length_cons]; omega
def fitsS : List Nat → List Nat → Bool
 | [], l => l.isEmpty
 | s :: r, l => if s = 1000 then decide (0 < segN l) && fitsS r (l.drop (segN l)) else if s = 1001 then r.isEmpty else match l with
  | [] => false
  | c :: l => decide (c = s) && fitsS r l
theorem fits_nil (l : List Nat) : fitsS [] l = l.isEmpty := by unfold fitsS; rfl
theorem fits_param (r l : List Nat) : fitsS (1000 :: r) l = (decide (0 < segN l) && fitsS r (l.drop (segN l))) := by
 conv => lhs; unfold fitsS
 rfl
theorem fits_rest (r l : List Nat) : fitsS (1001 :: r) l = r.isEmpty := by
 conv => lhs; unfold fitsS
 rfl
theorem fits_byte {a : Nat} (ha : a < 256) (r : List Nat) (c : Nat) (l : List Nat) : fitsS (a :: r) (c :: l) = (decide (c = a) && fitsS r l) := by
 conv => lhs; unfold fitsS
 rw [if_neg (by omega), if_neg (by omega)]
theorem fits_byte_nil {a : Nat} (ha : a < 256) (r : List Nat) : fitsS (a :: r) [] = false := by
 conv => lhs; unfold fitsS
 rw [if_neg (by omega), if_neg (by omega)]
def aheadS : List Nat → List Nat → Prop
 | [], [] => False
 | [], _ :: _ => True
 | _ :: _, [] => False
 | a :: x, b :: y => (a = b ∧ aheadS x y) ∨ (a ≠ b ∧ (a < b ∨ (a < 256 ∧ b < 256)))
theorem ahead_nil : ∀ x : List Nat, ¬ aheadS x []
 | [], h => h
 | _ :: _, h => h
theorem ahead_append (p : List Nat) {x y : List Nat} (h : aheadS (p ++ x) (p ++ y)) : aheadS x y := by
 induction p with
 | nil => exact h
 | cons a p ih =>
  rcases h with ⟨_, h⟩ | ⟨h, _⟩
  ·exact ih h
  ·exact absurd rfl h
theorem ahead_append_of (p : List Nat) {x y : List Nat} (h : aheadS x y) : aheadS (p ++ x) (p ++ y) := by
 induction p with
 | nil => exact h
 | cons a p ih => exact .inl ⟨rfl, ih⟩
theorem ahead_big {a b : Nat} {x y : List Nat} (h : aheadS (a :: x) (b :: y)) (ha : 256 ≤ a) : a ≤ b := by
 rcases h with ⟨h, _⟩ | ⟨_, h | h⟩ <;> omega
theorem fitsS_text (p : List Nat) (hp : ∀ c ∈ p, c < 256) (r l : List Nat) : fitsS (p ++ r) l = true ↔ ∃ l', l = p ++ l' ∧ fitsS r l' = true := by
 induction p generalizing l with
 | nil => exact ⟨fun h => ⟨l, rfl, h⟩, fun ⟨l', e, h⟩ => by rw [e]; exact h⟩
 | cons a p ih =>
  have ha := hp a (List.mem_cons_self ..)
  have ih := ih (fun c hc => hp c (List.mem_cons_of_mem _ hc))
  rw [List.cons_append]
  cases l with
  | nil =>
   rw [fits_byte_nil ha]
   exact ⟨(fun h => by cases h), (fun ⟨l', e, _⟩ => by cases e)⟩
  | cons c l =>
   rw [fits_byte ha, Bool.and_eq_true, decide_eq_true_eq, ih]
   constructor
   ·rintro ⟨rfl, l', rfl, h⟩
    exact ⟨l', rfl, h⟩
   ·rintro ⟨l', e, h⟩
    rw [List.cons_append] at e
    injection e with e1 e2
    exact ⟨e1, l', e2, h⟩
def fitP (l : List Nat) (x : Pw) : Bool := fitsS (symS x.2) l
def hitN (o : Option Pw) : Nat := match o with
 | some x => x.1 + 1
 | none => 0
def best (ws : List Pw) (l : List Nat) : Nat := hitN (ws.find? (fitP l))
def SortS (ws : List Pw) : Prop := ws.Pairwise fun x y => aheadS (symS x.2) (symS y.2)
theorem find_split {ws : List Pw} (l : List Nat) (hs : SortS ws) (p : Pw → Bool) (hp : ∀ x ∈ ws, ∀ y ∈ ws, p x = true → p y = false → ¬ aheadS (symS y.2) (symS x.2)) :
  ws.find? (fitP l) = ((ws.filter p).find? (fitP l)).or ((ws.filter fun x => !p x).find? (fitP l)) := by
 induction ws with
 | nil => rfl
 | cons x ws ih =>
  obtain ⟨h1, h2⟩ := List.pairwise_cons.1 hs
  have ih := ih h2 (fun a ha b hb => hp a (List.mem_cons_of_mem _ ha) b (List.mem_cons_of_mem _ hb))
  cases hf : fitP l x
  ·rw [List.find?_cons_of_neg (by rw [hf]; simp), ih]
   cases hq : p x
   ·rw [List.filter_cons_of_neg (by rw [hq]; simp), List.filter_cons_of_pos (by simp [hq]), List.find?_cons_of_neg (by rw [hf]; simp)]
   ·rw [List.filter_cons_of_pos hq, List.filter_cons_of_neg (by simp [hq]), List.find?_cons_of_neg (by rw [hf]; simp)]
  ·rw [List.find?_cons_of_pos hf]
   cases hq : p x
   ·rw [List.filter_cons_of_neg (by rw [hq]; simp), List.filter_cons_of_pos (by simp [hq]), List.find?_cons_of_pos hf]
    have hn : (ws.filter p).find? (fitP l) = none := by
     rw [List.find?_eq_none]
     intro y hy _
     obtain ⟨hy1, hy2⟩ := List.mem_filter.1 hy
     exact hp y (List.mem_cons_of_mem _ hy1) x (List.mem_cons_self ..) hy2 hq (h1 y hy1)
    rw [hn]
    rfl
   ·rw [List.filter_cons_of_pos hq, List.find?_cons_of_pos hf]
    rfl
theorem hitN_or (a b : Option Pw) : hitN (a.or b) = if 0 < hitN a then hitN a else hitN b := by
 cases a with
 | none => rfl
 | some x => show x.1 + 1 = _; rw [if_pos (by show 0 < x.1 + 1; omega)]; rfl
theorem SortS.filter {ws : List Pw} (h : SortS ws) (p : Pw → Bool) : SortS (ws.filter p) := List.Pairwise.filter p h
theorem best_filter {ws : List Pw} (l : List Nat) (hs : SortS ws) (p : Pw → Bool) (hp : ∀ x ∈ ws, ∀ y ∈ ws, p x = true → p y = false → ¬ aheadS (symS y.2) (symS x.2)) :
  best ws l = if 0 < best (ws.filter p) l then best (ws.filter p) l else best (ws.filter fun x => !p x) l := by
 unfold best
 rw [find_split l hs p hp, hitN_or]
theorem best_none {ws : List Pw} {l : List Nat} (h : ∀ x ∈ ws, fitP l x = false) : best ws l = 0 := by
 unfold best
 rw [List.find?_eq_none.2 (fun x hx => by rw [h x hx]; simp)]
 rfl
theorem best_sub {ws : List Pw} {l : List Nat} (p : Pw → Bool) (h : ∀ x ∈ ws, fitP l x = true → p x = true) : best (ws.filter p) l = best ws l := by
 unfold best
 congr 1
 induction ws with
 | nil => rfl
 | cons x ws ih =>
  have ih := ih (fun y hy => h y (List.mem_cons_of_mem _ hy))
  cases hf : fitP l x
  ·rw [List.find?_cons_of_neg (by rw [hf]; simp), ← ih]
   cases hq : p x
   ·rw [List.filter_cons_of_neg (by rw [hq]; simp)]
   ·rw [List.filter_cons_of_pos hq, List.find?_cons_of_neg (by rw [hf]; simp)]
  ·rw [List.filter_cons_of_pos (h x (List.mem_cons_self ..) hf), List.find?_cons_of_pos hf, List.find?_cons_of_pos hf]
theorem best_map {ws : List Pw} {l l' : List Nat} (f : Pw → Pw) (hf : ∀ x ∈ ws, (f x).1 = x.1 ∧ fitP l' (f x) = fitP l x) : best (ws.map f) l' = best ws l := by
 unfold best
 induction ws with
 | nil => rfl
 | cons x ws ih =>
  have ih := ih (fun y hy => hf y (List.mem_cons_of_mem _ hy))
  obtain ⟨h1, h2⟩ := hf x (List.mem_cons_self ..)
  rw [List.map_cons]
  cases h : fitP l x
  ·rw [List.find?_cons_of_neg (by rw [h2, h]; simp), List.find?_cons_of_neg (by rw [h]; simp), ih]
  ·rw [List.find?_cons_of_pos (by rw [h2, h]), List.find?_cons_of_pos h]
   show (f x).1 + 1 = x.1 + 1
   rw [h1]
def endsT : Tr → Nat
 | .node e _ _ _ => e
 | _ => 0
def findT : Tr → ByteArray → Nat
 | .none, _ => 0
 | .node e kids param rest, s =>
  if s.size = 0 ∧ 0 < e then e
  else if 0 < findT kids s then findT kids s
  else if 0 < segN (bl s) ∧ 0 < findT param (s.extract (segN (bl s)) s.size) then findT param (s.extract (segN (bl s)) s.size)
  else endsT rest
 | .kid text t more, s =>
  if preB s text = true ∧ 0 < findT t (s.extract text.size s.size) then findT t (s.extract text.size s.size) else findT more s
theorem findT_kid (text : ByteArray) (t more : Tr) (s : ByteArray) : findT (.kid text t more) s = if preB s text = true ∧ 0 < findT t (s.extract text.size s.size) then findT t (s.extract text.size s.size) else findT more s := rfl
theorem findT_node (e : Nat) (kids param rest : Tr) (s : ByteArray) : findT (.node e kids param rest) s = if s.size = 0 ∧ 0 < e then e
  else if 0 < findT kids s then findT kids s
  else if 0 < segN (bl s) ∧ 0 < findT param (s.extract (segN (bl s)) s.size) then findT param (s.extract (segN (bl s)) s.size)
  else endsT rest := rfl
theorem findT_chain (a b : List (ByteArray × Tr)) (s : ByteArray) : findT (chain (a ++ b)) s = if 0 < findT (chain a) s then findT (chain a) s else findT (chain b) s := by
 induction a with
 | nil => rfl
 | cons x a ih =>
  show findT (.kid x.1 x.2 (chain (a ++ b))) s = if 0 < findT (.kid x.1 x.2 (chain a)) s then findT (.kid x.1 x.2 (chain a)) s else _
  rw [findT_kid, findT_kid]
  by_cases h : preB s x.1 = true ∧ 0 < findT x.2 (s.extract x.1.size s.size)
  ·rw [if_pos h, if_pos h, if_pos h.2]
  ·rw [if_neg h, if_neg h, ih]
def isE (x : Pw) : Bool := x.2.isEmpty
def isK (k : Int) (x : Pw) : Bool := match x.2 with
 | [] => false
 | p :: _ => decide (p.1 = k)
theorem ends_fold {ws : List Pw} (h : ∀ x ∈ ws, x.2 ≠ []) : ∀ e : Nat, ws.foldl (fun e x => match x.2 with | [] => x.1 + 1 | _ => e) e = e := by
 induction ws with
 | nil => exact fun e => rfl
 | cons x ws ih =>
  intro e
  rw [List.foldl_cons]
  have := h x (List.mem_cons_self ..)
  cases hx : x.2 with
  | nil => exact absurd hx this
  | cons p r => exact ih (fun y hy => h y (List.mem_cons_of_mem _ hy)) e
theorem symS_nil {l : List Pc} (h : wfS l) (hk : ∀ p ∈ l, p.1 = 0 ∨ p.1 = 1 ∨ p.1 = 2) : symS l = [] ↔ l = [] := by
 constructor
 ·intro e
  cases l with
  | nil => rfl
  | cons p l =>
   exfalso
   rw [symS_cons] at e
   have e := (List.append_eq_nil_iff.1 e).1
   have h1 := h p (List.mem_cons_self ..)
   unfold symP at e
   rcases hk p (List.mem_cons_self ..) with h0 | h0 | h0
   ·rw [if_neg (by omega), if_neg (by omega)] at e
    have := bl_zero.1 e
    have := h1 h0
    omega
   ·rw [if_pos h0] at e; cases e
   ·rw [if_neg (by omega), if_pos h0] at e; cases e
 ·rintro rfl; rfl
theorem ends_best {ws : List Pw} (hs : SortS ws) : ∀ e : Nat, ws.foldl (fun e x => match x.2 with | [] => x.1 + 1 | _ => e) e = if 0 < best (ws.filter isE) [] then best (ws.filter isE) [] else e := by
 induction ws with
 | nil => exact fun e => rfl
 | cons x ws ih =>
  intro e
  obtain ⟨h1, h2⟩ := List.pairwise_cons.1 hs
  rw [List.foldl_cons]
  cases hx : x.2 with
  | nil =>
   have hn : ∀ y ∈ ws, y.2 ≠ [] := fun y hy e => by
    have := h1 y hy
    rw [hx, e] at this
    exact this
   rw [List.filter_cons_of_pos (by unfold isE; rw [hx]; rfl)]
   have hb : best (x :: ws.filter isE) [] = x.1 + 1 := by
    unfold best
    rw [List.find?_cons_of_pos (by unfold fitP; rw [hx]; rfl)]
    rfl
   rw [hb, if_pos (by omega)]
   exact ends_fold hn _
  | cons p r =>
   rw [List.filter_cons_of_neg (by unfold isE; rw [hx]; simp)]
   exact ih h2 e
theorem endsP_best {ws : List Pw} (hs : SortS ws) : endsP ws = best (ws.filter isE) [] := by
 refine (ends_best hs 0).trans ?_
 split
 ·rfl
 ·omega
def isG (c : Nat) (x : Pw) : Bool := match x.2 with
 | [] => false
 | p :: _ => decide (p.1 = 0) && decide (bt p.2 0 = c)
theorem groupP_filter {ws : List Pw} (hw : wfW ws) (c : Nat) : groupP c ws = ws.filter (isG c) := by
 induction ws with
 | nil => rfl
 | cons x ws ih =>
  have ih := ih (hw.mem fun y hy => List.mem_cons_of_mem _ hy)
  have e : groupP c (x :: ws) = groupOne c x ++ groupP c ws := rfl
  rw [e, ih]
  unfold groupOne
  cases hx : x.2 with
  | nil => rw [List.filter_cons_of_neg (by unfold isG; rw [hx]; simp)]; rfl
  | cons p r =>
   have hk := (hw x (List.mem_cons_self ..)).2 p (by rw [hx]; exact List.mem_cons_self ..)
   dsimp only
   by_cases h : p.1 = 1 ∨ p.1 = 2
   ·rw [if_pos h, List.filter_cons_of_neg (by unfold isG; rw [hx]; simp; omega)]; rfl
   ·rw [if_neg h]
    by_cases hb : bt p.2 0 = c
    ·rw [if_pos hb, List.filter_cons_of_pos (by unfold isG; rw [hx]; simp; omega)]; rfl
    ·rw [if_neg hb, List.filter_cons_of_neg (by unfold isG; rw [hx]; simp; omega)]; rfl
def behindP (x : Pw) : Pw := (x.1, x.2.tail)
theorem edgeP_map (k : Int) (ws : List Pw) : edgeP k ws = (ws.filter (isK k)).map behindP := by
 induction ws with
 | nil => rfl
 | cons x ws ih =>
  have e : edgeP k (x :: ws) = edgeOne k x ++ edgeP k ws := rfl
  rw [e, ih]
  unfold edgeOne
  cases hx : x.2 with
  | nil => rw [List.filter_cons_of_neg (by unfold isK; rw [hx]; simp)]; rfl
  | cons p r =>
   dsimp only
   by_cases h : p.1 = k
   ·rw [if_pos h, List.filter_cons_of_pos (by unfold isK; rw [hx]; simp [h]), List.map_cons]
    unfold behindP
    rw [hx]
    rfl
   ·rw [if_neg h, List.filter_cons_of_neg (by unfold isK; rw [hx]; simp [h])]; rfl
theorem isK_some {k : Int} {x : Pw} (h : isK k x = true) : ∃ p r, x.2 = p :: r ∧ p.1 = k := by
 unfold isK at h
 cases hx : x.2 with
 | nil => rw [hx] at h; cases h
 | cons p r => rw [hx] at h; exact ⟨p, r, rfl, by simpa using h⟩
theorem sym_param {p : Pc} (h : p.1 = 1) (r : List Pc) : symS (p :: r) = 1000 :: symS r := by rw [symS_cons]; unfold symP; rw [if_pos h]; rfl
theorem sym_rest {p : Pc} (h : p.1 = 2) (r : List Pc) : symS (p :: r) = 1001 :: symS r := by rw [symS_cons]; unfold symP; rw [if_neg (by omega), if_pos h]; rfl
theorem sym_text {p : Pc} (h : p.1 = 0) (r : List Pc) : symS (p :: r) = bl p.2 ++ symS r := by rw [symS_cons]; unfold symP; rw [if_neg (by omega), if_neg (by omega)]
theorem SortS.edge {k : Int} {ws : List Pw} (hk : k = 1 ∨ k = 2) (h : SortS ws) : SortS (edgeP k ws) := by
 rw [edgeP_map]
 unfold SortS
 rw [List.pairwise_map]
 refine ((List.Pairwise.filter (isK k) h).imp_of_mem fun {x y} hx hy hxy => ?_)
 obtain ⟨p, r, ex, hp⟩ := isK_some (List.mem_filter.1 hx).2
 obtain ⟨q, r', ey, hq⟩ := isK_some (List.mem_filter.1 hy).2
 rw [ex, ey] at hxy
 unfold behindP
 rw [ex, ey]
 show aheadS (symS r) (symS r')
 rcases hk with rfl | rfl
 ·rw [sym_param hp, sym_param hq] at hxy
  rcases hxy with ⟨_, h⟩ | ⟨h, _⟩
  ·exact h
  ·exact absurd rfl h
 ·rw [sym_rest hp, sym_rest hq] at hxy
  rcases hxy with ⟨_, h⟩ | ⟨h, _⟩
  ·exact h
  ·exact absurd rfl h
theorem comOne_pre (y : ByteArray) : ∀ (n : Nat) (t : ByteArray), t.size ≤ n → bl (comOne y t) <+: bl t
 | n, t, hn => by
  cases h : preB y t
  ·obtain ⟨h0, h1⟩ := comOne_no h
   have hz := ext_size t (a := 0) (b := t.size - 1) (by omega) (by omega)
   match n, hn with
   | 0, hn => omega
   | n + 1, hn =>
    rw [h1]
    refine (comOne_pre y n _ (by omega)).trans ?_
    rw [bl_extract, List.drop_zero]
    exact List.take_prefix _ _
  ·rw [comOne_yes h]
   exact List.prefix_refl _
theorem foldl_pre (l : List Pw) : ∀ t : ByteArray, bl (l.foldl (fun t x => comOne (txt x) t) t) <+: bl t := by
 induction l with
 | nil => exact fun t => List.prefix_refl _
 | cons x l ih => exact fun t => (ih _).trans (comOne_pre (txt x) _ t (Nat.le_refl _))
theorem foldl_each {l : List Pw} : ∀ (t : ByteArray), ∀ x ∈ l, bl (l.foldl (fun t x => comOne (txt x) t) t) <+: bl (txt x) := by
 induction l with
 | nil => intro t x hx; cases hx
 | cons y l ih =>
  intro t x hx
  rw [List.foldl_cons]
  rcases List.mem_cons.1 hx with rfl | hx
  ·exact (foldl_pre l _).trans (preB_bl.1 (comOne_spec (txt x) _ t (Nat.le_refl _)).2)
  ·exact ih _ x hx
theorem common_pre {l : List Pw} {x : Pw} (hx : x ∈ l) : bl (commonP l) <+: bl (txt x) := by
 cases l with
 | nil => cases hx
 | cons y l => exact foldl_each (l := y :: l) _ x hx
theorem sym_cut {m : ByteArray} {x : Pw} {p : Pc} {r : List Pc} (hx : x.2 = p :: r) (h0 : p.1 = 0) (hp : bl m <+: bl (txt x)) : symS x.2 = bl m ++ symS (cutOne m.size x).2 := by
 obtain ⟨t, ht⟩ := hp
 have htx : txt x = p.2 := by unfold txt; rw [hx]
 rw [htx] at ht
 have hb : bl (p.2.extract m.size p.2.size) = t := by
  rw [bl_extract, ← ht, ← bl_length p.2, ← ht, List.take_length, ← bl_length m, List.drop_left]
 rw [hx, sym_text h0, ← ht, List.append_assoc]
 congr 1
 unfold cutOne
 dsimp only
 rw [htx, hx]
 split
 ·rename_i hz
  rw [bl_zero.2 hz] at hb
  rw [← hb]
  rfl
 ·rw [sym_text rfl, hb]
  rfl
theorem group_first {c : Nat} {ws : List Pw} (hw : wfW ws) {x : Pw} (h : x ∈ groupP c ws) : ∃ p r, x.2 = p :: r ∧ p.1 = 0 ∧ ∃ t, bl p.2 = c :: t := by
 obtain ⟨hx, p, r, e, h1, h2, hb⟩ := group_mem h
 have hm : p ∈ x.2 := by rw [e]; exact List.mem_cons_self ..
 have hk := (hw x hx).2 p hm
 have h0 : p.1 = 0 := by omega
 obtain ⟨a, t, e2, e3⟩ := bl_head ((hw x hx).1 p hm h0)
 exact ⟨p, r, e, h0, t, by rw [e2]; congr 1; omega⟩
theorem common_head {c : Nat} {ws : List Pw} (hw : wfW ws) (hne : groupP c ws ≠ []) : ∃ t, bl (commonP (groupP c ws)) = c :: t := by
 have hp := common_pos hw hne
 obtain ⟨x, hx⟩ := List.exists_mem_of_ne_nil _ hne
 obtain ⟨p, r, e, h0, t, ht⟩ := group_first hw hx
 obtain ⟨a, u, e2, _⟩ := bl_head hp
 have hpre := common_pre hx
 have htx : txt x = p.2 := by unfold txt; rw [e]
 rw [e2, htx, ht] at hpre
 obtain ⟨v, hv⟩ := hpre
 rw [List.cons_append] at hv
 injection hv with hv _
 exact ⟨u, by rw [e2, hv]⟩
theorem sort_cut {m : ByteArray} {g : List Pw} (hg : SortS g) (h : ∀ x ∈ g, ∃ p r, x.2 = p :: r ∧ p.1 = 0 ∧ bl m <+: bl (txt x)) : SortS (cutP m.size g) := by
 induction g with
 | nil => exact List.Pairwise.nil
 | cons x g ih =>
  obtain ⟨h1, h2⟩ := List.pairwise_cons.1 hg
  refine List.pairwise_cons.2 ⟨fun z hz => ?_, ih h2 fun y hy => h y (List.mem_cons_of_mem _ hy)⟩
  obtain ⟨y, hy, rfl⟩ := List.mem_map.1 hz
  have hxy := h1 y hy
  have hX : symS x.2 = bl m ++ symS (cutOne m.size x).2 := Exists.elim (h x (List.mem_cons_self ..)) fun p hp => Exists.elim hp fun r hr => sym_cut hr.1 hr.2.1 hr.2.2
  have hY : symS y.2 = bl m ++ symS (cutOne m.size y).2 := Exists.elim (h y (List.mem_cons_of_mem _ hy)) fun p hp => Exists.elim hp fun r hr => sym_cut hr.1 hr.2.1 hr.2.2
  rw [hX, hY] at hxy
  exact ahead_append (bl m) (x := symS (cutOne m.size x).2) (y := symS (cutOne m.size y).2) hxy
theorem SortS.cut {c : Nat} {ws : List Pw} (hw : wfW ws) (h : SortS ws) : SortS (cutP (commonP (groupP c ws)).size (groupP c ws)) :=
 sort_cut (by rw [groupP_filter hw]; exact h.filter _) fun x hx => by
  obtain ⟨p, r, e, h0, _⟩ := group_first hw hx
  exact ⟨p, r, e, h0, common_pre hx⟩
theorem best_group {c : Nat} {ws : List Pw} (hw : wfW ws) {B : List Pw → Tr} {s : ByteArray} (hB : ∀ s', groupP c ws ≠ [] → findT (B (cutP (commonP (groupP c ws)).size (groupP c ws))) s' = best (cutP (commonP (groupP c ws)).size (groupP c ws)) (bl s')) :
  findT (chain (kidOne B (groupP c ws))) s = best (groupP c ws) (bl s) := by
 unfold kidOne
 by_cases hne : groupP c ws = []
 ·rw [if_pos hne, hne]; rfl
 rw [if_neg hne]
 show findT (.kid _ _ .none) s = _
 rw [findT_kid, hB _ hne]
 show (if _ then _ else 0) = _
 by_cases hpre : preB s (commonP (groupP c ws)) = true
 ·obtain ⟨t, ht⟩ := preB_bl.1 hpre
  have hbe : bl (s.extract (commonP (groupP c ws)).size s.size) = t := by
   rw [bl_extract, ← bl_length s, List.take_length, ← ht, ← bl_length (commonP (groupP c ws)), List.drop_left]
  rw [hbe]
  have := best_map (ws := groupP c ws) (l := bl s) (l' := t) (cutOne (commonP (groupP c ws)).size) (fun x hx => ⟨rfl, by
   obtain ⟨p, r, e, h0, _⟩ := group_first hw hx
   unfold fitP
   rw [sym_cut e h0 (common_pre hx), ← ht]
   rw [Bool.eq_iff_iff, fitsS_text _ (fun c hc => bl_lt hc)]
   constructor
   ·intro h; exact ⟨t, rfl, h⟩
   ·rintro ⟨l', e, h⟩
    rw [List.append_cancel_left e]
    exact h⟩)
  rw [← this]
  show (if _ ∧ 0 < best (cutP _ _) t then best (cutP _ _) t else 0) = best (cutP _ _) t
  by_cases hz : 0 < best (cutP (commonP (groupP c ws)).size (groupP c ws)) t
  ·rw [if_pos ⟨hpre, hz⟩]
  ·rw [if_neg (fun h => hz h.2)]; omega
 ·rw [if_neg (fun h => hpre h.1)]
  refine (best_none fun x hx => ?_).symm
  obtain ⟨p, r, e, h0, _⟩ := group_first hw hx
  unfold fitP
  rw [sym_cut e h0 (common_pre hx)]
  cases hf : fitsS (bl (commonP (groupP c ws)) ++ symS (cutOne (commonP (groupP c ws)).size x).2) (bl s)
  ·rfl
  ·obtain ⟨l', e, _⟩ := (fitsS_text _ (fun c hc => bl_lt hc) _ _).1 hf
   exact absurd (preB_bl.2 ⟨l', e.symm⟩) hpre
theorem fit_group {c : Nat} {ws : List Pw} (hw : wfW ws) {x : Pw} (hx : x ∈ groupP c ws) {l : List Nat} (h : fitP l x = true) : ∃ t, l = c :: t := by
 obtain ⟨p, r, e, h0, t, ht⟩ := group_first hw hx
 unfold fitP at h
 rw [e, sym_text h0, ht] at h
 obtain ⟨l', e, _⟩ := (fitsS_text (c :: t) (fun a ha => bl_lt (by rw [ht]; exact ha)) _ _).1 h
 exact ⟨t ++ l', e⟩
def headG (ws : List Pw) (k : Nat) (l : List Nat) : Nat := match l with
 | [] => 0
 | a :: _ => if a < k then best (groupP a ws) l else 0
theorem headG_nil (ws : List Pw) (k : Nat) : headG ws k [] = 0 := rfl
theorem headG_cons (ws : List Pw) (k a : Nat) (l : List Nat) : headG ws k (a :: l) = if a < k then best (groupP a ws) (a :: l) else 0 := rfl
theorem best_kids {ws : List Pw} (hw : wfW ws) {B : List Pw → Tr} {s : ByteArray} (hB : ∀ c s', groupP c ws ≠ [] → findT (B (cutP (commonP (groupP c ws)).size (groupP c ws))) s' = best (cutP (commonP (groupP c ws)).size (groupP c ws)) (bl s')) :
  ∀ k, findT (chain (kidsL B ws k)) s = headG ws k (bl s)
 | 0 => by
  show 0 = _
  cases bl s with
  | nil => rfl
  | cons a l => rw [headG_cons, if_neg (by omega)]
 | k + 1 => by
  show findT (chain (kidsL B ws k ++ kidOne B (groupP k ws))) s = _
  rw [findT_chain, best_kids hw hB k, best_group hw (hB k)]
  cases hl : bl s with
  | nil =>
   rw [headG_nil, headG_nil, if_neg (Nat.lt_irrefl 0)]
   exact best_none fun x hx => by
    cases hf : fitP [] x
    ·rfl
    ·obtain ⟨t, ht⟩ := fit_group hw hx hf; cases ht
  | cons a l =>
   rw [headG_cons, headG_cons]
   by_cases hak : a < k
   ·rw [if_pos hak, if_pos (show a < k + 1 by omega)]
    split
    ·rfl
    ·have : best (groupP k ws) (a :: l) = 0 := best_none fun x hx => by
      cases hf : fitP (a :: l) x
      ·rfl
      ·obtain ⟨t, ht⟩ := fit_group hw hx hf
       injection ht with ht _
       omega
     omega
   ·rw [if_neg hak, if_neg (Nat.lt_irrefl 0)]
    by_cases ha : a = k
    ·rw [ha, if_pos (by omega)]
    ·rw [if_neg (by omega)]
     exact best_none fun x hx => by
      cases hf : fitP (a :: l) x
      ·rfl
      ·obtain ⟨t, ht⟩ := fit_group hw hx hf
       injection ht with ht _
       exact absurd ht ha
theorem best_texts {ws : List Pw} (hw : wfW ws) {l : List Nat} (hl : ∀ c ∈ l, c < 256) : best (ws.filter (isK 0)) l = headG ws 256 l := by
 have hfirst : ∀ x ∈ ws.filter (isK 0), ∃ p r t c, x.2 = p :: r ∧ p.1 = 0 ∧ bl p.2 = c :: t ∧ bt p.2 0 = (c : Int) := fun x hx => by
  obtain ⟨hm, hk⟩ := List.mem_filter.1 hx
  obtain ⟨p, r, e, h0⟩ := isK_some hk
  obtain ⟨c, t, e2, e3⟩ := bl_head ((hw x hm).1 p (by rw [e]; exact List.mem_cons_self ..) h0)
  exact ⟨p, r, t, c, e, h0, e2, e3⟩
 have hfit : ∀ x ∈ ws.filter (isK 0), fitP l x = true → ∃ c t, l = c :: t ∧ isG c x = true := fun x hx hf => by
  obtain ⟨p, r, t, c, e, h0, ht, hb⟩ := hfirst x hx
  unfold fitP at hf
  rw [e, sym_text h0, ht] at hf
  obtain ⟨l', e', _⟩ := (fitsS_text (c :: t) (fun a ha => bl_lt (by rw [ht]; exact ha)) _ _).1 hf
  refine ⟨c, t ++ l', e', ?_⟩
  unfold isG
  rw [e]
  simp [h0, hb]
 cases l with
 | nil =>
  exact best_none fun x hx => by
   cases hf : fitP [] x
   ·rfl
   ·obtain ⟨c, t, e, _⟩ := hfit x hx hf; cases e
 | cons a l =>
  rw [headG_cons, if_pos (hl a (List.mem_cons_self ..)), groupP_filter hw]
  rw [← best_sub (ws := ws.filter (isK 0)) (isG a) (fun x hx hf => by
   obtain ⟨c, t, e, hg⟩ := hfit x hx hf
   injection e with e _
   rw [e]
   exact hg)]
  congr 1
  rw [List.filter_filter]
  refine List.filter_congr fun x _ => ?_
  unfold isG isK
  cases x.2 with
  | nil => rfl
  | cons p r => dsimp only; cases decide (p.1 = 0) <;> simp
theorem best_params {ws : List Pw} {l : List Nat} : best (ws.filter (isK 1)) l = if 0 < segN l then best (edgeP 1 ws) (l.drop (segN l)) else 0 := by
 have hx : ∀ x ∈ ws.filter (isK 1), ∃ p r, x.2 = p :: r ∧ p.1 = 1 := fun x hx => isK_some (List.mem_filter.1 hx).2
 by_cases hz : 0 < segN l
 ·rw [if_pos hz, edgeP_map]
  refine (best_map behindP fun x h => ⟨rfl, ?_⟩).symm
  obtain ⟨p, r, e, hp⟩ := hx x h
  unfold fitP behindP
  rw [e, sym_param hp]
  rw [fits_param, decide_eq_true hz, Bool.true_and]
  rfl
 ·rw [if_neg hz]
  refine best_none fun x h => ?_
  obtain ⟨p, r, e, hp⟩ := hx x h
  unfold fitP
  rw [e, sym_param hp]
  rw [fits_param, decide_eq_false hz, Bool.false_and]
theorem rests_ends {l : List Nat} (V : List Pw) (h : ∀ x ∈ V, isK 2 x = true ∧ wfS x.2 ∧ ∀ p ∈ x.2, p.1 = 0 ∨ p.1 = 1 ∨ p.1 = 2) : best V l = best ((V.map behindP).filter isE) [] := by
 unfold best
 induction V with
 | nil => rfl
 | cons x V ih =>
  have ih := ih (fun y hy => h y (List.mem_cons_of_mem _ hy))
  obtain ⟨hk, hw1, hw2⟩ := h x (List.mem_cons_self ..)
  obtain ⟨p, r, e, hp⟩ := isK_some hk
  rw [e] at hw1 hw2
  have hr := symS_nil (l := r) (fun q hq => hw1 q (List.mem_cons_of_mem _ hq)) (fun q hq => hw2 q (List.mem_cons_of_mem _ hq))
  have hf : fitP l x = (symS r).isEmpty := by
   unfold fitP
   rw [e, sym_rest hp, fits_rest]
  have hb : behindP x = (x.1, r) := by unfold behindP; rw [e]; rfl
  rw [List.map_cons, hb]
  cases hz : r with
  | nil =>
   rw [hz] at hf
   rw [List.find?_cons_of_pos hf, List.filter_cons_of_pos rfl, List.find?_cons_of_pos rfl]
   rfl
  | cons q r' =>
   have : (symS r).isEmpty = false := by
    cases hs : symS r with
    | nil => rw [hr.1 hs] at hz; cases hz
    | cons a b => rfl
   rw [this] at hf
   rw [List.find?_cons_of_neg (by rw [hf]; simp), List.filter_cons_of_neg (by unfold isE; simp), ih]
theorem best_rests {ws : List Pw} (hw : wfW ws) (hs : SortS ws) {l : List Nat} : best (ws.filter (isK 2)) l = endsP (edgeP 2 ws) := by
 rw [endsP_best (hs.edge (.inr rfl)), edgeP_map]
 exact rests_ends _ fun x hx => by
  obtain ⟨h1, h2⟩ := List.mem_filter.1 hx
  exact ⟨h2, hw x h1⟩
theorem find_edge {B : List Pw → Tr} {l : List Pw} {s : ByteArray} (hB : l ≠ [] → findT (B l) s = best l (bl s)) : findT (edgeT B l) s = best l (bl s) := by
 unfold edgeT
 by_cases h : l = []
 ·rw [if_pos h, h]; rfl
 ·rw [if_neg h, hB h]
theorem ends_edge {n : Nat} {l : List Pw} (h : meas l < n) : endsT (edgeT (buildP n) l) = endsP l := by
 unfold edgeT
 by_cases e : l = []
 ·rw [if_pos e, e]; rfl
 ·rw [if_neg e]
  obtain ⟨m, rfl⟩ : ∃ m, n = m + 1 := ⟨n - 1, by omega⟩
  rfl
theorem find_build : ∀ (n : Nat) (ws : List Pw) (s : ByteArray), meas ws < n → wfW ws → SortS ws → findT (buildP n ws) s = best ws (bl s)
 | 0, _, _, h, _, _ => absurd h (Nat.not_lt_zero _)
 | n + 1, ws, s, hm, hw, hs => by
  have hlt : ∀ c ∈ bl s, c < 256 := fun c hc => bl_lt hc
  have ek : findT (chain (kidsL (buildP n) ws 256)) s = best (ws.filter (isK 0)) (bl s) := by
   rw [best_texts hw hlt]
   refine best_kids hw (fun c s' hne => find_build n _ s' ?_ hw.group.cut (SortS.cut hw hs)) 256
   have h1 := cut_meas (n := (commonP (groupP c ws)).size) (ws := groupP c ws) (fun x hx => by
    obtain ⟨p, r, e, _⟩ := group_first hw hx
    exact ⟨by rw [e]; simp, common_all hx⟩) (common_pos hw hne)
   have h2 := group_meas c ws
   have h3 : 0 < (groupP c ws).length := List.length_pos_iff.2 hne
   omega
  have hm1 := edge_meas 1 ws
  have hm2 := edge_meas 2 ws
  have ep : (if 0 < segN (bl s) then findT (edgeT (buildP n) (edgeP 1 ws)) (s.extract (segN (bl s)) s.size) else 0) = best (ws.filter (isK 1)) (bl s) := by
   rw [best_params]
   by_cases hz : 0 < segN (bl s)
   ·rw [if_pos hz, if_pos hz, find_edge (fun hne => find_build n _ _ (by have := List.length_pos_iff.2 hne; omega) hw.edge (hs.edge (.inl rfl))), bl_extract, ← bl_length s, List.take_length]
   ·rw [if_neg hz, if_neg hz]
  have er : endsT (edgeT (buildP n) (edgeP 2 ws)) = best (ws.filter (isK 2)) (bl s) := by
   rw [best_rests hw hs]
   by_cases hne : edgeP 2 ws = []
   ·rw [hne]; rfl
   ·exact ends_edge (by have := List.length_pos_iff.2 hne; omega)
  have ee : endsP ws = best (ws.filter isE) [] := endsP_best hs
  -- the first split: the ends
  have s1 := best_filter (bl s) hs isE (fun x hx y hy h1 h2 => by
   unfold isE at h1
   rw [List.isEmpty_iff.1 h1]
   exact ahead_nil _)
  have hs2 : SortS (ws.filter fun x => !isE x) := hs.filter _
  have s2 := best_filter (bl s) hs2 (isK 0) (fun x hx y hy h1 h2 => by
   obtain ⟨p, r, e, h0⟩ := isK_some h1
   obtain ⟨hxm, _⟩ := List.mem_filter.1 hx
   obtain ⟨hym, hye⟩ := List.mem_filter.1 hy
   obtain ⟨c, t, e2, _⟩ := bl_head ((hw x hxm).1 p (by rw [e]; exact List.mem_cons_self ..) h0)
   have hc : c < 256 := bl_lt (s := p.2) (by rw [e2]; exact List.mem_cons_self ..)
   rw [e, sym_text h0, e2]
   cases hy2 : y.2 with
   | nil => unfold isE at hye; rw [hy2] at hye; simp at hye
   | cons q r' =>
    have hq := (hw y hym).2 q (by rw [hy2]; exact List.mem_cons_self ..)
    unfold isK at h2
    rw [hy2] at h2
    have h2 : ¬ q.1 = 0 := by simpa using h2
    rcases hq with hq | hq | hq
    ·exact absurd hq h2
    ·rw [sym_param hq]; intro h; have := ahead_big h (by omega); omega
    ·rw [sym_rest hq]; intro h; have := ahead_big h (by omega); omega)
  have hs3 : SortS ((ws.filter fun x => !isE x).filter fun x => !isK 0 x) := hs2.filter _
  have s3 := best_filter (bl s) hs3 (isK 1) (fun x hx y hy h1 h2 => by
   obtain ⟨p, r, e, h0⟩ := isK_some h1
   obtain ⟨hy1, hy0⟩ := List.mem_filter.1 hy
   obtain ⟨hym, hye⟩ := List.mem_filter.1 hy1
   rw [e, sym_param h0]
   cases hy2 : y.2 with
   | nil => unfold isE at hye; rw [hy2] at hye; simp at hye
   | cons q r' =>
    have hq := (hw y hym).2 q (by rw [hy2]; exact List.mem_cons_self ..)
    unfold isK at h2 hy0
    rw [hy2] at h2 hy0
    have h2 : ¬ q.1 = 1 := by simpa using h2
    have hy0 : ¬ q.1 = 0 := by simpa using hy0
    rcases hq with hq | hq | hq
    ·exact absurd hq hy0
    ·exact absurd hq h2
    ·rw [sym_rest hq]; intro h; have := ahead_big h (by omega); omega)
  have f1 : (ws.filter fun x => !isE x).filter (isK 0) = ws.filter (isK 0) := by
   rw [List.filter_filter]
   refine List.filter_congr fun x _ => ?_
   unfold isE isK
   cases x.2 <;> simp
  have f2 : ((ws.filter fun x => !isE x).filter fun x => !isK 0 x).filter (isK 1) = ws.filter (isK 1) := by
   rw [List.filter_filter, List.filter_filter]
   refine List.filter_congr fun x _ => ?_
   unfold isE isK
   cases x.2 with
   | nil => rfl
   | cons p r => simp; omega
  have f3 : (((ws.filter fun x => !isE x).filter fun x => !isK 0 x).filter fun x => !isK 1 x) = ws.filter (isK 2) := by
   rw [List.filter_filter, List.filter_filter]
   refine List.filter_congr fun x hx => ?_
   unfold isE isK
   cases hx2 : x.2 with
   | nil => rfl
   | cons p r =>
    have hq := (hw x hx).2 p (by rw [hx2]; exact List.mem_cons_self ..)
    rw [Bool.eq_iff_iff]
    simp
    omega
  rw [f1] at s2
  rw [f2, f3] at s3
  rw [s2, s3] at s1
  rw [s1]
  show findT (.node (endsP ws) (chain (kidsL (buildP n) ws 256)) (edgeT (buildP n) (edgeP 1 ws)) (edgeT (buildP n) (edgeP 2 ws))) s = _
  rw [findT_node, ek, er]
  by_cases hz : s.size = 0
  ·have hb : bl s = [] := bl_zero.2 hz
   rw [ee, hb]
   by_cases he : 0 < best (ws.filter isE) []
   ·rw [if_pos ⟨hz, he⟩, if_pos he]
   ·rw [if_neg (fun h => he h.2), if_neg he]
    rw [hb] at ep
    have ep2 : best (ws.filter (isK 1)) [] = 0 := by rw [← ep]; rfl
    have hXY : (if 0 < segN [] ∧ 0 < findT (edgeT (buildP n) (edgeP 1 ws)) (s.extract (segN []) s.size) then findT (edgeT (buildP n) (edgeP 1 ws)) (s.extract (segN []) s.size) else best (ws.filter (isK 2)) []) = best (ws.filter (isK 2)) [] := if_neg (fun h => absurd h.1 (by decide))
    rw [ep2, hXY, if_neg (Nat.lt_irrefl 0)]
  ·have hb : ¬ bl s = [] := fun e => hz (bl_zero.1 e)
   have he : best (ws.filter isE) (bl s) = 0 := best_none fun x hx => by
    obtain ⟨_, h2⟩ := List.mem_filter.1 hx
    unfold isE at h2
    unfold fitP
    rw [List.isEmpty_iff.1 h2]
    cases e : bl s with
    | nil => exact absurd e hb
    | cons a l => rfl
   have hXY : (if 0 < segN (bl s) ∧ 0 < findT (edgeT (buildP n) (edgeP 1 ws)) (s.extract (segN (bl s)) s.size) then findT (edgeT (buildP n) (edgeP 1 ws)) (s.extract (segN (bl s)) s.size) else best (ws.filter (isK 2)) (bl s)) = (if 0 < best (ws.filter (isK 1)) (bl s) then best (ws.filter (isK 1)) (bl s) else best (ws.filter (isK 2)) (bl s)) := by
    rw [← ep]
    by_cases hg : 0 < segN (bl s)
    ·rw [if_pos hg]
     by_cases hq : 0 < findT (edgeT (buildP n) (edgeP 1 ws)) (s.extract (segN (bl s)) s.size)
     ·rw [if_pos ⟨hg, hq⟩, if_pos hq]
     ·rw [if_neg (fun h => hq h.2), if_neg hq]
    ·rw [if_neg (fun h => hg h.1), if_neg hg, if_neg (Nat.lt_irrefl 0)]
   rw [he, if_neg (fun h => hz h.1), if_neg (Nat.lt_irrefl 0), hXY]
end Go.Proofs.YtiohmnhbmmhnhaaGreatDoor
namespace Go.Proofs.YtiohmnhbmmhnhaaGreatDoor
theorem u8_nlt {a b : UInt8} (h1 : ¬ a < b) (h2 : ¬ b < a) : a = b := by
 rw [UInt8.lt_iff_toNat_lt] at h1 h2
 exact UInt8.toNat_inj.1 (by omega)
abbrev cmpL (a b : List UInt8) : Int := Lib.compareBytes a b
theorem cmpL_cons (a b : UInt8) (x y : List UInt8) : cmpL (a :: x) (b :: y) = if a < b then -1 else if b < a then 1 else cmpL x y := rfl
theorem cmpL_self : ∀ a : List UInt8, cmpL a a = 0
 | [] => rfl
 | a :: x => by rw [cmpL_cons, if_neg (UInt8.lt_irrefl a), if_neg (UInt8.lt_irrefl a), cmpL_self x]
theorem cmpL_zero : ∀ {a b : List UInt8}, cmpL a b = 0 → a = b
 | [], [], _ => rfl
 | [], _ :: _, h => by cases h
 | _ :: _, [], h => by cases h
 | a :: x, b :: y, h => by
  rw [cmpL_cons] at h
  split at h
  ·cases h
  ·split at h
   ·cases h
   ·rename_i h1 h2
    rw [u8_nlt h1 h2, cmpL_zero h]
theorem cmpL_range : ∀ a b : List UInt8, cmpL a b = -1 ∨ cmpL a b = 0 ∨ cmpL a b = 1
 | [], [] => .inr (.inl rfl)
 | [], _ :: _ => .inl rfl
 | _ :: _, [] => .inr (.inr rfl)
 | a :: x, b :: y => by
  rw [cmpL_cons]
  split
  ·exact .inl rfl
  ·split
   ·exact .inr (.inr rfl)
   ·exact cmpL_range x y
theorem cmpL_anti : ∀ a b : List UInt8, cmpL b a = - cmpL a b
 | [], [] => rfl
 | [], _ :: _ => rfl
 | _ :: _, [] => rfl
 | a :: x, b :: y => by
  rw [cmpL_cons, cmpL_cons]
  by_cases h1 : a < b
  ·have h2 : ¬ b < a := by rw [UInt8.lt_iff_toNat_lt] at h1 ⊢; omega
   rw [if_neg h2, if_pos h1, if_pos h1]
   rfl
  ·by_cases h2 : b < a
   ·rw [if_pos h2, if_neg h1, if_pos h2]
   ·rw [if_neg h2, if_neg h1, if_neg h1, if_neg h2, cmpL_anti x y]
theorem cmpL_three : ∀ a b c : List UInt8, cmpL a b ≤ 0 → cmpL b c ≤ 0 → cmpL a c ≤ 0 ∧ (cmpL a c = 0 → cmpL a b = 0 ∧ cmpL b c = 0)
 | [], [], c, h1, h2 => ⟨h2, fun h => ⟨rfl, h⟩⟩
 | [], _ :: _, [], _, h2 => absurd h2 (by show ¬ (1 : Int) ≤ 0; decide)
 | [], _ :: _, _ :: _, _, _ => ⟨by show (-1 : Int) ≤ 0; decide, fun h => by cases h⟩
 | _ :: _, [], _, h1, _ => absurd h1 (by show ¬ (1 : Int) ≤ 0; decide)
 | _ :: _, _ :: _, [], _, h2 => absurd h2 (by show ¬ (1 : Int) ≤ 0; decide)
 | a :: x, b :: y, c :: z, h1, h2 => by
  rw [cmpL_cons] at h1 h2 ⊢
  rw [cmpL_cons, cmpL_cons]
  simp only [UInt8.lt_iff_toNat_lt] at *
  by_cases e1 : a.toNat < b.toNat
  ·by_cases e2 : b.toNat < c.toNat
   ·rw [if_pos (by omega)]
    exact ⟨by decide, fun h => by cases h⟩
   ·rw [if_neg e2] at h2
    by_cases e3 : c.toNat < b.toNat
    ·rw [if_pos e3] at h2
     exact absurd h2 (by decide)
    ·rw [if_pos (by omega)]
     exact ⟨by decide, fun h => by cases h⟩
  ·rw [if_neg e1] at h1
   by_cases e4 : b.toNat < a.toNat
   ·rw [if_pos e4] at h1
    exact absurd h1 (by decide)
   rw [if_neg e4] at h1
   by_cases e2 : b.toNat < c.toNat
   ·rw [if_pos (by omega)]
    exact ⟨by decide, fun h => by cases h⟩
   ·rw [if_neg e2] at h2
    by_cases e3 : c.toNat < b.toNat
    ·rw [if_pos e3] at h2
     exact absurd h2 (by decide)
    ·rw [if_neg e3] at h2
     rw [if_neg (by omega), if_neg (by omega), if_neg e1, if_neg e4, if_neg e2, if_neg e3]
     exact cmpL_three x y z h1 h2
def cmpB (a b : ByteArray) : Int := Lib.compareBytes a.data.toList b.data.toList
theorem ba_ext {a b : ByteArray} (h : a.data.toList = b.data.toList) : a = b := ByteArray.ext (Array.toList_inj.1 h)
theorem cmpB_zero {a b : ByteArray} : cmpB a b = 0 ↔ a = b :=
 ⟨fun h => ba_ext (cmpL_zero h), fun h => by rw [h]; exact cmpL_self _⟩
def hdP (p q : Pc) : Int := if p.1 = q.1 then (if p.1 = 0 then cmpB p.2 q.2 else 0) else if p.1 < q.1 then -1 else 1
def ordP : List Pc → List Pc → Int
 | [], [] => 0
 | [], _ :: _ => -1
 | _ :: _, [] => 1
 | p :: a, q :: b => if hdP p q = 0 then ordP a b else hdP p q
theorem ordP_cons (p q : Pc) (a b : List Pc) : ordP (p :: a) (q :: b) = if hdP p q = 0 then ordP a b else hdP p q := rfl
theorem hdP_anti (p q : Pc) : hdP q p = - hdP p q := by
 unfold hdP
 by_cases h : p.1 = q.1
 ·rw [if_pos h, if_pos h.symm]
  by_cases h0 : p.1 = 0
  ·rw [if_pos h0, if_pos (by omega)]
   exact cmpL_anti _ _
  ·rw [if_neg h0, if_neg (by omega)]
   rfl
 ·rw [if_neg h, if_neg (fun e => h e.symm)]
  by_cases h2 : p.1 < q.1
  ·rw [if_pos h2, if_neg (by omega)]; rfl
  ·rw [if_neg h2, if_pos (by omega)]
theorem hdP_range (p q : Pc) : hdP p q = -1 ∨ hdP p q = 0 ∨ hdP p q = 1 := by
 unfold hdP
 split
 ·split
  ·exact cmpL_range _ _
  ·exact .inr (.inl rfl)
 ·split
  ·exact .inl rfl
  ·exact .inr (.inr rfl)
theorem hdP_three (p q r : Pc) (h1 : hdP p q ≤ 0) (h2 : hdP q r ≤ 0) : hdP p r ≤ 0 ∧ (hdP p r = 0 → hdP p q = 0 ∧ hdP q r = 0) := by
 unfold hdP at *
 by_cases e1 : p.1 = q.1
 ·by_cases e2 : q.1 = r.1
  ·rw [if_pos e1] at h1
   rw [if_pos e2] at h2
   rw [if_pos (e1.trans e2), if_pos e1, if_pos e2]
   by_cases h0 : p.1 = 0
   ·have q0 : q.1 = 0 := by omega
    simp only [if_pos h0, if_pos q0] at h1 h2 ⊢
    exact cmpL_three _ _ _ h1 h2
   ·have q0 : ¬ q.1 = 0 := by omega
    simp only [if_neg h0, if_neg q0]
    exact ⟨Int.le_refl _, fun _ => ⟨trivial, trivial⟩⟩
  ·rw [if_neg e2] at h2
   have : q.1 < r.1 := by
    by_cases h : q.1 < r.1
    ·exact h
    ·rw [if_neg h] at h2; exact absurd h2 (by decide)
   rw [if_neg (by omega), if_pos (by omega)]
   exact ⟨by decide, fun h => by cases h⟩
 ·rw [if_neg e1] at h1
  have h3 : p.1 < q.1 := by
   by_cases h : p.1 < q.1
   ·exact h
   ·rw [if_neg h] at h1; exact absurd h1 (by decide)
  have h4 : q.1 ≤ r.1 := by
   by_cases e2 : q.1 = r.1
   ·omega
   ·rw [if_neg e2] at h2
    by_cases h : q.1 < r.1
    ·omega
    ·rw [if_neg h] at h2; exact absurd h2 (by decide)
  rw [if_neg (by omega), if_pos (by omega)]
  exact ⟨by decide, fun h => by cases h⟩
theorem ordP_anti : ∀ a b : List Pc, ordP b a = - ordP a b
 | [], [] => rfl
 | [], _ :: _ => rfl
 | _ :: _, [] => rfl
 | p :: a, q :: b => by
  rw [ordP_cons, ordP_cons, hdP_anti p q]
  by_cases h : hdP p q = 0
  ·rw [if_pos h, if_pos (by omega), ordP_anti a b]
  ·rw [if_neg h, if_neg (by omega)]
theorem ordP_range : ∀ a b : List Pc, ordP a b = -1 ∨ ordP a b = 0 ∨ ordP a b = 1
 | [], [] => .inr (.inl rfl)
 | [], _ :: _ => .inl rfl
 | _ :: _, [] => .inr (.inr rfl)
 | p :: a, q :: b => by
  rw [ordP_cons]
  split
  ·exact ordP_range a b
  ·exact hdP_range p q
theorem ordP_three : ∀ a b c : List Pc, ordP a b ≤ 0 → ordP b c ≤ 0 → ordP a c ≤ 0 ∧ (ordP a c = 0 → ordP a b = 0 ∧ ordP b c = 0)
 | [], [], c, h1, h2 => ⟨h2, fun h => ⟨rfl, h⟩⟩
 | [], _ :: _, [], _, h2 => absurd h2 (by show ¬ (1 : Int) ≤ 0; decide)
 | [], _ :: _, _ :: _, _, _ => ⟨by show (-1 : Int) ≤ 0; decide, fun h => by cases h⟩
 | _ :: _, [], _, h1, _ => absurd h1 (by show ¬ (1 : Int) ≤ 0; decide)
 | _ :: _, _ :: _, [], _, h2 => absurd h2 (by show ¬ (1 : Int) ≤ 0; decide)
 | p :: a, q :: b, r :: c, h1, h2 => by
  rw [ordP_cons] at h1 h2
  rw [ordP_cons, ordP_cons, ordP_cons]
  have k1 : hdP p q ≤ 0 := by
   by_cases h : hdP p q = 0
   ·omega
   ·rw [if_neg h] at h1; exact h1
  have k2 : hdP q r ≤ 0 := by
   by_cases h : hdP q r = 0
   ·omega
   ·rw [if_neg h] at h2; exact h2
  obtain ⟨h3, h4⟩ := hdP_three p q r k1 k2
  by_cases h : hdP p r = 0
  ·obtain ⟨e1, e2⟩ := h4 h
   rw [if_pos e1] at h1 ⊢
   rw [if_pos e2] at h2 ⊢
   rw [if_pos h]
   exact ordP_three a b c h1 h2
  ·rw [if_neg h]
   exact ⟨h3, fun e => absurd e h⟩
def symTail : List Pc → List Nat
 | [] => []
 | p :: l => 47 :: (symP p ++ symTail l)
def symPat : List Pc → List Nat
 | [] => []
 | p :: l => symP p ++ symTail l
theorem sym_stepsGo (l : List Pc) : ∀ (k : Nat) (t : ByteArray) (out : List Pc), (∀ p ∈ l, p.1 = 0 ∨ p.1 = 1 ∨ p.1 = 2) → (k = 0 → t.size = 0) → symS (stepsGo l k t out) = symS out ++ (bl t ++ if k = 0 then symPat l else symTail l) := by
 induction l with
 | nil =>
  intro k t out _ _
  have e : (if k = 0 then symPat [] else symTail []) = [] := by split <;> rfl
  rw [e, List.append_nil]
  by_cases ht : t.size = 0
  ·rw [steps_end ht, bl_zero.2 ht, List.append_nil]
  ·rw [steps_end_text ht, symS_append]
   congr 1
   rw [sym_text rfl]
   exact List.append_nil _
 | cons p l ih =>
  intro k t out hk h0
  have hp := hk p (List.mem_cons_self ..)
  have hl : ∀ p ∈ l, p.1 = 0 ∨ p.1 = 1 ∨ p.1 = 2 := fun q hq => hk q (List.mem_cons_of_mem _ hq)
  by_cases hp0 : p.1 = 0
  ·have hs : symP p = bl p.2 := by unfold symP; rw [if_neg (by omega), if_neg (by omega)]
   by_cases k0 : k = 0
   ·rw [steps_first_text hp0 k0, ih _ _ _ hl (fun h => absurd h (Nat.succ_ne_zero k)), if_neg (Nat.succ_ne_zero k), if_pos k0, bl_append]
    show _ = symS out ++ (bl t ++ (symP p ++ symTail l))
    rw [hs]
    simp
   ·rw [steps_text hp0 k0, ih _ _ _ hl (fun h => absurd h (Nat.succ_ne_zero k)), if_neg (Nat.succ_ne_zero k), if_neg k0, bl_append, bl_append]
    show _ = symS out ++ (bl t ++ (47 :: (symP p ++ symTail l)))
    rw [hs, show bl slashR = [47] from rfl]
    simp
  ·have hs : symS [p] = symP p := List.append_nil _
   have he : bl (⟨#[]⟩ : ByteArray) = [] := rfl
   by_cases k0 : k = 0
   ·rw [steps_first_edge hp0 k0 (h0 k0), ih _ _ _ hl (fun h => absurd h (Nat.succ_ne_zero k)), if_neg (Nat.succ_ne_zero k), if_pos k0, bl_zero.2 (h0 k0), symS_append, hs, he]
    show _ = symS out ++ ([] ++ (symP p ++ symTail l))
    simp
   ·rw [steps_edge hp0 k0, ih _ _ _ hl (fun h => absurd h (Nat.succ_ne_zero k)), if_neg (Nat.succ_ne_zero k), if_neg k0, symS_append, symS_append, hs, he]
    show _ = symS out ++ (bl t ++ (47 :: (symP p ++ symTail l)))
    have h1 : symS [((0 : Int), t ++ slashR)] = bl t ++ [47] := by
     rw [sym_text rfl, bl_append]
     exact List.append_nil _
    rw [h1]
    simp
theorem sym_steps {l : List Pc} (h : ∀ p ∈ l, p.1 = 0 ∨ p.1 = 1 ∨ p.1 = 2) : symS (stepsP l) = symPat l := by
 unfold stepsP
 rw [sym_stepsGo l 0 _ _ h (fun _ => rfl), if_pos rfl]
 rfl
def wfP (l : List Pc) : Prop := ∀ p ∈ l, (p.1 = 0 ∨ p.1 = 1 ∨ p.1 = 2) ∧ (p.1 = 0 → ∀ c ∈ bl p.2, c ≠ 47)
theorem ahead_text : ∀ (a b : List UInt8) (x y : List Nat), (∀ c ∈ b.map UInt8.toNat, c ≠ 47) → cmpL a b < 0 → x = [] ∨ (∃ t, x = 47 :: t) → aheadS (a.map UInt8.toNat ++ x) (b.map UInt8.toNat ++ y)
 | [], [], _, _, _, h, _ => absurd h (Int.lt_irrefl _)
 | [], c :: b, x, y, hb, _, hx => by
  rcases hx with rfl | ⟨t, rfl⟩
  ·exact trivial
  ·refine .inr ⟨?_, .inr ⟨by decide, UInt8.toNat_lt c⟩⟩
   exact fun e => hb c.toNat (List.mem_map_of_mem (List.mem_cons_self ..)) e.symm
 | _ :: _, [], _, _, _, h, _ => absurd h (by show ¬ (1 : Int) < 0; decide)
 | a :: u, b :: v, x, y, hb, h, hx => by
  by_cases e : a = b
  ·subst e
   rw [cmpL_cons, if_neg (UInt8.lt_irrefl a), if_neg (UInt8.lt_irrefl a)] at h
   exact .inl ⟨rfl, ahead_text u v x y (fun c hc => hb c (by rw [List.map_cons]; exact List.mem_cons_of_mem _ hc)) h hx⟩
  ·exact .inr ⟨fun h => e (UInt8.toNat_inj.1 h), .inr ⟨UInt8.toNat_lt a, UInt8.toNat_lt b⟩⟩
theorem symTail_form (l : List Pc) : symTail l = [] ∨ ∃ t, symTail l = 47 :: t := by
 cases l with
 | nil => exact .inl rfl
 | cons p l => exact .inr ⟨_, rfl⟩
theorem symPat_big {p : Pc} {l : List Pc} (h : p.1 = 1 ∨ p.1 = 2) : symPat (p :: l) = (if p.1 = 1 then 1000 else 1001) :: symTail l := by
 show symP p ++ symTail l = _
 unfold symP
 rcases h with h | h
 ·rw [if_pos h, if_pos h]; rfl
 ·rw [if_neg (by omega), if_pos h, if_neg (by omega)]; rfl
theorem ahead_order : ∀ (a b : List Pc), wfP a → wfP b → a ≠ [] → ordP a b < 0 → aheadS (symPat a) (symPat b)
 | [], _, _, _, h, _ => absurd rfl h
 | _ :: _, [], _, _, _, h => absurd h (by show ¬ (1 : Int) < 0; decide)
 | p :: a, q :: b, ha, hb, _, h => by
  rw [ordP_cons] at h
  obtain ⟨kp, _⟩ := ha p (List.mem_cons_self ..)
  obtain ⟨kq, sq⟩ := hb q (List.mem_cons_self ..)
  have ha' : wfP a := fun r hr => ha r (List.mem_cons_of_mem _ hr)
  have hb' : wfP b := fun r hr => hb r (List.mem_cons_of_mem _ hr)
  by_cases h0 : hdP p q = 0
  ·rw [if_pos h0] at h
   have hs : symP p = symP q := by
    unfold hdP at h0
    by_cases e : p.1 = q.1
    ·rw [if_pos e] at h0
     unfold symP
     rw [e]
     by_cases z : p.1 = 0
     ·rw [if_pos z] at h0
      rw [cmpB_zero.1 h0]
     ·rcases kq with k | k | k
      ·exact absurd (e.trans k) z
      ·rw [if_pos k, if_pos k]
      ·simp only [k, if_neg (show ¬ (2 : Int) = 1 by decide), if_true]
    ·rw [if_neg e] at h0
     split at h0 <;> cases h0
   show aheadS (symP p ++ symTail a) (symP q ++ symTail b)
   rw [hs]
   refine ahead_append_of _ ?_
   cases a with
   | nil =>
    cases b with
    | nil => exact absurd h (Int.lt_irrefl _)
    | cons r b => exact trivial
   | cons r a =>
    cases b with
    | nil => exact absurd h (by show ¬ (1 : Int) < 0; decide)
    | cons s b => exact .inl ⟨rfl, ahead_order (r :: a) (s :: b) ha' hb' (by simp) h⟩
  ·rw [if_neg h0] at h
   unfold hdP at h
   by_cases e : p.1 = q.1
   ·rw [if_pos e] at h
    by_cases z : p.1 = 0
    ·rw [if_pos z] at h
     have e1 : symP p = bl p.2 := by unfold symP; rw [if_neg (by omega), if_neg (by omega)]
     have e2 : symP q = bl q.2 := by unfold symP; rw [if_neg (by omega), if_neg (by omega)]
     show aheadS (symP p ++ symTail a) (symP q ++ symTail b)
     rw [e1, e2]
     exact ahead_text _ _ _ _ (sq (by omega)) h (symTail_form a)
    ·rw [if_neg z] at h
     exact absurd h (Int.lt_irrefl _)
   ·rw [if_neg e] at h
    have hlt : p.1 < q.1 := by
     by_cases h2 : p.1 < q.1
     ·exact h2
     ·rw [if_neg h2] at h; exact absurd h (by decide)
    rw [symPat_big (p := q) (by omega)]
    by_cases z : p.1 = 0
    ·have e1 : symP p = bl p.2 := by unfold symP; rw [if_neg (by omega), if_neg (by omega)]
     show aheadS (symP p ++ symTail a) _
     rw [e1]
     cases hx : bl p.2 ++ symTail a with
     | nil => exact trivial
     | cons c t =>
      have hc : c < 256 := by
       cases hy : bl p.2 with
       | nil =>
        rw [hy] at hx
        rcases symTail_form a with h | ⟨u, h⟩
        ·rw [h] at hx; cases hx
        ·rw [h] at hx; injection hx with hx _; omega
       | cons d u =>
        rw [hy] at hx
        injection hx with hx _
        have : d < 256 := bl_lt (s := p.2) (by rw [hy]; exact List.mem_cons_self ..)
        omega
      refine .inr ⟨?_, .inl ?_⟩ <;> split <;> omega
    ·rw [symPat_big (p := p) (by omega), if_pos (by omega), if_neg (by omega)]
     exact .inr ⟨by decide, .inl (by decide)⟩
end Go.Proofs.YtiohmnhbmmhnhaaGreatDoor
namespace Go.Proofs.YtiohmnhbmmhnhaaGreatDoor
def waysGo : Nat → List (List Pc) → List Pw
 | _, [] => []
 | k, l :: r => (k, stepsP l) :: waysGo (k + 1) r
def waysP (ls : List (List Pc)) : List Pw := waysGo 0 ls
theorem waysGo_snoc (ls : List (List Pc)) (l : List Pc) : ∀ k, waysGo k (ls ++ [l]) = waysGo k ls ++ [(k + ls.length, stepsP l)] := by
 induction ls with
 | nil => exact fun k => rfl
 | cons a ls ih =>
  intro k
  show (k, stepsP a) :: waysGo (k + 1) (ls ++ [l]) = (k, stepsP a) :: waysGo (k + 1) ls ++ _
  rw [ih, List.length_cons, show k + 1 + ls.length = k + (ls.length + 1) by omega]
  rfl
theorem waysP_snoc (ls : List (List Pc)) (l : List Pc) : waysP (ls ++ [l]) = waysP ls ++ [(ls.length, stepsP l)] := by
 unfold waysP
 rw [waysGo_snoc, Nat.zero_add]
theorem waysGo_mem {ls : List (List Pc)} : ∀ {k : Nat} {x : Pw}, x ∈ waysGo k ls → ∃ l ∈ ls, x.2 = stepsP l ∧ k ≤ x.1 ∧ x.1 < k + ls.length := by
 induction ls with
 | nil => intro k x h; cases h
 | cons a ls ih =>
  intro k x h
  rcases List.mem_cons.1 h with rfl | h
  ·exact ⟨a, List.mem_cons_self .., rfl, Nat.le_refl _, by rw [List.length_cons]; show k < _; omega⟩
  ·obtain ⟨l, h1, h2, h3, h4⟩ := ih h
   exact ⟨l, List.mem_cons_of_mem _ h1, h2, by omega, by rw [List.length_cons]; omega⟩
theorem stepsGo_wf (l : List Pc) : ∀ (k : Nat) (t : ByteArray) (out : List Pc), (∀ p ∈ l, p.1 = 0 ∨ p.1 = 1 ∨ p.1 = 2) → (k = 0 → t.size = 0) → (wfS out ∧ ∀ p ∈ out, p.1 = 0 ∨ p.1 = 1 ∨ p.1 = 2) → wfS (stepsGo l k t out) ∧ ∀ p ∈ stepsGo l k t out, p.1 = 0 ∨ p.1 = 1 ∨ p.1 = 2 := by
 have add : ∀ {out : List Pc} {q : Pc}, (wfS out ∧ ∀ p ∈ out, p.1 = 0 ∨ p.1 = 1 ∨ p.1 = 2) → (q.1 = 0 → 0 < q.2.size) → (q.1 = 0 ∨ q.1 = 1 ∨ q.1 = 2) → (wfS (out ++ [q]) ∧ ∀ p ∈ out ++ [q], p.1 = 0 ∨ p.1 = 1 ∨ p.1 = 2) := fun {out q} h h1 h2 => by
  constructor
  ·intro p hp h0
   rcases List.mem_append.1 hp with hp | hp
   ·exact h.1 p hp h0
   ·obtain rfl := List.mem_singleton.1 hp
    exact h1 h0
  ·intro p hp
   rcases List.mem_append.1 hp with hp | hp
   ·exact h.2 p hp
   ·obtain rfl := List.mem_singleton.1 hp
    exact h2
 induction l with
 | nil =>
  intro k t out _ _ ho
  by_cases ht : t.size = 0
  ·rw [steps_end ht]; exact ho
  ·rw [steps_end_text ht]
   exact add ho (fun _ => by show 0 < t.size; omega) (.inl rfl)
 | cons p l ih =>
  intro k t out hk h0 ho
  have hp := hk p (List.mem_cons_self ..)
  have hl : ∀ p ∈ l, p.1 = 0 ∨ p.1 = 1 ∨ p.1 = 2 := fun q hq => hk q (List.mem_cons_of_mem _ hq)
  by_cases hp0 : p.1 = 0
  ·by_cases k0 : k = 0
   ·rw [steps_first_text hp0 k0]
    exact ih _ _ _ hl (fun h => absurd h (Nat.succ_ne_zero k)) ho
   ·rw [steps_text hp0 k0]
    exact ih _ _ _ hl (fun h => absurd h (Nat.succ_ne_zero k)) ho
  ·by_cases k0 : k = 0
   ·rw [steps_first_edge hp0 k0 (h0 k0)]
    exact ih _ _ _ hl (fun h => absurd h (Nat.succ_ne_zero k)) (add ho (fun h => absurd h hp0) hp)
   ·rw [steps_edge hp0 k0]
    exact ih _ _ _ hl (fun h => absurd h (Nat.succ_ne_zero k)) (add (add ho (fun _ => by show 0 < (t ++ slashR).size; rw [slash_size]; omega) (.inl rfl)) (fun h => absurd h hp0) hp)
theorem steps_wf {l : List Pc} (h : ∀ p ∈ l, p.1 = 0 ∨ p.1 = 1 ∨ p.1 = 2) : wfS (stepsP l) ∧ ∀ p ∈ stepsP l, p.1 = 0 ∨ p.1 = 1 ∨ p.1 = 2 :=
 stepsGo_wf l 0 _ [] h (fun _ => rfl) ⟨(fun p hp => by cases hp), (fun p hp => by cases hp)⟩
theorem ways_wf {ls : List (List Pc)} (h : ∀ l ∈ ls, ∀ p ∈ l, p.1 = 0 ∨ p.1 = 1 ∨ p.1 = 2) : wfW (waysP ls) := fun x hx => by
 obtain ⟨l, h1, h2, _⟩ := waysGo_mem hx
 rw [h2]
 exact steps_wf (h l h1)
theorem totS_append (a b : List Pc) : totS (a ++ b) = totS a + totS b := by simp [totS]
theorem stepsGo_tot (l : List Pc) : ∀ (k : Nat) (t : ByteArray) (out : List Pc), (k = 0 → t.size = 0) → totS (stepsGo l k t out) ≤ totS out + t.size + 1 + 3 * totP l := by
 induction l with
 | nil =>
  intro k t out _
  by_cases ht : t.size = 0
  ·rw [steps_end ht]; omega
  ·rw [steps_end_text ht, totS_append]
   show totS out + (t.size + 1 + 0) ≤ _
   omega
 | cons p l ih =>
  intro k t out h0
  rw [totP_cons]
  by_cases hp0 : p.1 = 0
  ·by_cases k0 : k = 0
   ·rw [steps_first_text hp0 k0]
    have := ih (k + 1) (t ++ p.2) out (fun h => absurd h (Nat.succ_ne_zero k))
    rw [ByteArray.size_append] at this
    omega
   ·rw [steps_text hp0 k0]
    have := ih (k + 1) (t ++ slashR ++ p.2) out (fun h => absurd h (Nat.succ_ne_zero k))
    rw [ByteArray.size_append, slash_size] at this
    omega
  ·by_cases k0 : k = 0
   ·rw [steps_first_edge hp0 k0 (h0 k0)]
    have := ih (k + 1) ⟨#[]⟩ (out ++ [p]) (fun h => absurd h (Nat.succ_ne_zero k))
    have e : (⟨#[]⟩ : ByteArray).size = 0 := rfl
    rw [totS_append, e] at this
    have e2 : totS [p] = p.2.size + 1 := by simp [totS]
    omega
   ·rw [steps_edge hp0 k0]
    have := ih (k + 1) ⟨#[]⟩ (out ++ [(0, t ++ slashR)] ++ [p]) (fun h => absurd h (Nat.succ_ne_zero k))
    have e : (⟨#[]⟩ : ByteArray).size = 0 := rfl
    rw [totS_append, totS_append, e] at this
    have e2 : totS [p] = p.2.size + 1 := by simp [totS]
    have e3 : totS [((0 : Int), t ++ slashR)] = t.size + 1 + 1 := by
     show (t ++ slashR).size + 1 + 0 = _
     rw [slash_size]
    omega
theorem steps_tot (l : List Pc) : totS (stepsP l) ≤ 3 * totP l + 1 := by
 have := stepsGo_tot l 0 ⟨#[]⟩ [] (fun _ => rfl)
 have e : (⟨#[]⟩ : ByteArray).size = 0 := rfl
 have e2 : totS [] = 0 := rfl
 unfold stepsP
 omega
def loadP (ls : List (List Pc)) : Nat := (ls.map fun l => totP l + 1).sum
theorem loadP_cons (l : List Pc) (ls : List (List Pc)) : loadP (l :: ls) = totP l + 1 + loadP ls := by simp [loadP]
theorem loadP_append (a b : List (List Pc)) : loadP (a ++ b) = loadP a + loadP b := by simp [loadP]
theorem loadP_len (ls : List (List Pc)) : ls.length ≤ loadP ls := by
 induction ls with
 | nil => exact Nat.le_refl _
 | cons l ls ih => rw [loadP_cons, List.length_cons]; omega
theorem loadP_mem {ls : List (List Pc)} {l : List Pc} (h : l ∈ ls) : totP l ≤ loadP ls := by
 induction ls with
 | nil => cases h
 | cons a ls ih =>
  rw [loadP_cons]
  rcases List.mem_cons.1 h with rfl | h
  ·omega
  ·have := ih h; omega
theorem ways_meas (ls : List (List Pc)) : meas (waysP ls) ≤ 3 * loadP ls := by
 have key : ∀ (ls : List (List Pc)) (k : Nat), meas (waysGo k ls) ≤ 3 * loadP ls := by
  intro ls
  induction ls with
  | nil => exact fun k => Nat.le_refl _
  | cons a ls ih =>
   intro k
   have e : waysGo k (a :: ls) = (k, stepsP a) :: waysGo (k + 1) ls := rfl
   rw [e, meas_cons, loadP_cons]
   have h1 := ih (k + 1)
   have h2 := steps_tot a
   show totS (stepsP a) + _ ≤ _
   omega
 exact key ls 0
def SortL (ls : List (List Pc)) : Prop := ls.Pairwise fun a b => ordP a b < 0
theorem ways_sort {ls : List (List Pc)} (hs : SortL ls) (hw : ∀ l ∈ ls, wfP l ∧ l ≠ []) : SortS (waysP ls) := by
 have key : ∀ (ls : List (List Pc)) (k : Nat), SortL ls → (∀ l ∈ ls, wfP l ∧ l ≠ []) → SortS (waysGo k ls) := by
  intro ls
  induction ls with
  | nil => exact fun k _ _ => List.Pairwise.nil
  | cons a ls ih =>
   intro k hs hw
   obtain ⟨h1, h2⟩ := List.pairwise_cons.1 hs
   refine List.pairwise_cons.2 ⟨fun x hx => ?_, ih (k + 1) h2 fun l hl => hw l (List.mem_cons_of_mem _ hl)⟩
   obtain ⟨l, hl, e, _⟩ := waysGo_mem hx
   obtain ⟨wa, na⟩ := hw a (List.mem_cons_self ..)
   obtain ⟨wl, nl⟩ := hw l (List.mem_cons_of_mem _ hl)
   rw [e]
   show aheadS (symS (stepsP a)) (symS (stepsP l))
   rw [sym_steps (fun p hp => (wa p hp).1), sym_steps (fun p hp => (wl p hp).1)]
   exact ahead_order a l wa wl na (h1 l hl)
 exact key ls 0 hs hw
theorem best_ways {ls : List (List Pc)} (hw : ∀ l ∈ ls, wfP l) (s : List Nat) : best (waysP ls) s = match ls.findIdx? (fun l => fitsS (symPat l) s) with
  | some i => i + 1
  | none => 0 := by
 have key : ∀ (ls : List (List Pc)) (k : Nat), (∀ l ∈ ls, wfP l) → best (waysGo k ls) s = match ls.findIdx? (fun l => fitsS (symPat l) s) with
  | some i => k + i + 1
  | none => 0 := by
  intro ls
  induction ls with
  | nil => exact fun k _ => rfl
  | cons a ls ih =>
   intro k hw
   have e : waysGo k (a :: ls) = (k, stepsP a) :: waysGo (k + 1) ls := rfl
   have ih := ih (k + 1) (fun l hl => hw l (List.mem_cons_of_mem _ hl))
   have hf : fitP s (k, stepsP a) = fitsS (symPat a) s := by
    unfold fitP
    show fitsS (symS (stepsP a)) s = _
    rw [sym_steps (fun p hp => (hw a (List.mem_cons_self ..) p hp).1)]
   rw [e, List.findIdx?_cons]
   cases h : fitsS (symPat a) s
   ·unfold best at ih ⊢
    rw [List.find?_cons_of_neg (by rw [hf, h]; simp), ih]
    cases ls.findIdx? (fun l => fitsS (symPat l) s) with
    | none => rfl
    | some i => simp; omega
   ·unfold best
    rw [List.find?_cons_of_pos (by rw [hf, h])]
    rfl
 rw [show waysP ls = waysGo 0 ls from rfl, key ls 0 hw]
 cases ls.findIdx? (fun l => fitsS (symPat l) s) with
 | none => rfl
 | some i => simp
end Go.Proofs.YtiohmnhbmmhnhaaGreatDoor
namespace Go.Proofs.YtiohmnhbmmhnhaaGreatDoor
def dupL (ls : List (List Pc)) : Prop := ∃ k a b, ls[k]? = some a ∧ ls[k + 1]? = some b ∧ ordP a b = 0
def cntL (ls : List (List Pc)) (m : List Pc) : Nat := ls.countP fun x => decide (ordP x m < 0)
theorem ord_lt_trans {a b c : List Pc} (h1 : ordP a b < 0) (h2 : ordP b c ≤ 0) : ordP a c < 0 := by
 obtain ⟨h3, h4⟩ := ordP_three a b c (Int.le_of_lt h1) h2
 by_cases e : ordP a c = 0
 ·have := (h4 e).1; omega
 ·omega
theorem sort_split {ls : List (List Pc)} (hs : SortL ls) (m : List Pc) : (∀ x ∈ ls.take (cntL ls m), ordP x m < 0) ∧ (∀ x ∈ ls.drop (cntL ls m), 0 ≤ ordP x m) := by
 induction ls with
 | nil => exact ⟨(fun x hx => by cases hx), (fun x hx => by cases hx)⟩
 | cons a r ih =>
  obtain ⟨h1, h2⟩ := List.pairwise_cons.1 hs
  by_cases h : ordP a m < 0
  ·have hc : cntL (a :: r) m = cntL r m + 1 := by unfold cntL; rw [List.countP_cons_of_pos (by simpa using h)]
   rw [hc, List.take_succ_cons, List.drop_succ_cons]
   refine ⟨fun x hx => ?_, (ih h2).2⟩
   rcases List.mem_cons.1 hx with rfl | hx
   ·exact h
   ·exact (ih h2).1 x hx
  ·have hall : ∀ x ∈ a :: r, 0 ≤ ordP x m := fun x hx => by
    rcases List.mem_cons.1 hx with rfl | hx
    ·omega
    ·refine Int.not_lt.1 fun hlt => h (ord_lt_trans (h1 x hx) (Int.le_of_lt hlt))
   have hc : cntL (a :: r) m = 0 := by
    unfold cntL
    rw [List.countP_eq_zero]
    intro x hx
    have := hall x hx
    simp
    omega
   rw [hc]
   exact ⟨(fun x hx => by cases hx), hall⟩
theorem cntL_le (ls : List (List Pc)) (m : List Pc) : cntL ls m ≤ ls.length := List.countP_le_length
def insL (ls : List (List Pc)) (m : List Pc) : List (List Pc) := ls.take (cntL ls m) ++ m :: ls.drop (cntL ls m)
theorem insL_sort {ls : List (List Pc)} (hs : SortL ls) {m : List Pc} (hn : ∀ y ∈ ls, ordP y m ≠ 0) : SortL (insL ls m) := by
 obtain ⟨h1, h2⟩ := sort_split hs m
 have hs' := hs
 rw [← List.take_append_drop (cntL ls m) ls] at hs'
 obtain ⟨p1, p2, p3⟩ := List.pairwise_append.1 hs'
 refine List.pairwise_append.2 ⟨p1, List.pairwise_cons.2 ⟨fun y hy => ?_, p2⟩, fun x hx y hy => ?_⟩
 ·have e := ordP_anti y m
  have h3 := h2 y hy
  have h4 := hn y (List.mem_of_mem_drop hy)
  omega
 ·rcases List.mem_cons.1 hy with rfl | hy
  ·exact h1 x hx
  ·exact p3 x hx y hy
theorem sort_nodup {ls : List (List Pc)} (hs : SortL ls) : ¬ dupL ls := by
 rintro ⟨k, a, b, ha, hb, h⟩
 obtain ⟨h1, rfl⟩ := List.getElem?_eq_some_iff.1 ha
 obtain ⟨h2, rfl⟩ := List.getElem?_eq_some_iff.1 hb
 have := List.pairwise_iff_getElem.1 hs k (k + 1) h1 h2 (by omega)
 omega
theorem insL_dup {ls : List (List Pc)} (hs : SortL ls) {m : List Pc} {y : List Pc} (hy : y ∈ ls) (h : ordP y m = 0) : dupL (insL ls m) := by
 obtain ⟨h1, h2⟩ := sort_split hs m
 have hc := cntL_le ls m
 have hlt : (ls.take (cntL ls m)).length = cntL ls m := by rw [List.length_take]; omega
 have hyd : y ∈ ls.drop (cntL ls m) := by
  have : y ∈ ls.take (cntL ls m) ++ ls.drop (cntL ls m) := by rw [List.take_append_drop]; exact hy
  rcases List.mem_append.1 this with hh | hh
  ·have := h1 y hh; omega
  ·exact hh
 cases hd : ls.drop (cntL ls m) with
 | nil => rw [hd] at hyd; cases hyd
 | cons z r =>
  have hz : ordP z m = 0 := by
   have hz0 := h2 z (by rw [hd]; exact List.mem_cons_self ..)
   rw [hd] at hyd
   rcases List.mem_cons.1 hyd with rfl | hyr
   ·exact h
   ·have hsd : SortL (ls.drop (cntL ls m)) := List.Pairwise.sublist (List.drop_sublist ..) hs
    rw [hd] at hsd
    have := ord_lt_trans ((List.pairwise_cons.1 hsd).1 y hyr) (Int.le_of_eq h)
    omega
  refine ⟨cntL ls m, m, z, ?_, ?_, by have := ordP_anti z m; omega⟩
  ·unfold insL
   rw [List.getElem?_append_right (by omega), hlt, Nat.sub_self]
   rfl
  ·unfold insL
   rw [List.getElem?_append_right (by omega), hlt, show cntL ls m + 1 - cntL ls m = 1 by omega, hd]
   rfl
end Go.Proofs.YtiohmnhbmmhnhaaGreatDoor
namespace Go.Proofs.YtiohmnhbmmhnhaaGreatDoor
theorem mem_bl_extract {s : ByteArray} {a b c : Nat} (hb : b ≤ s.size) (h : c ∈ bl (s.extract a b)) : ∃ j, a ≤ j ∧ j < b ∧ bt s j = (c : Int) := by
 obtain ⟨k, hk, rfl⟩ := List.getElem_of_mem h
 have hk2 : k < b - a := by
  rw [bl_length] at hk
  by_cases hab : a ≤ b
  ·rwa [ext_size s hab hb] at hk
  ·have : (s.extract a b).size = 0 := by rw [ByteArray.size_extract]; omega
   omega
 refine ⟨a + k, by omega, by omega, ?_⟩
 have e : (bl (s.extract a b))[k]? = (bl s)[a + k]? := by
  rw [bl_extract, List.getElem?_drop, List.getElem?_take, if_pos (by omega)]
 rw [List.getElem?_eq_getElem hk] at e
 unfold bl at e
 rw [List.getElem?_map] at e
 unfold bt
 rw [List.getD_eq_getElem?_getD]
 cases h2 : s.data.toList[a + k]? with
 | none => rw [h2] at e; cases e
 | some u =>
  rw [h2] at e
  injection e with e
  show ((u.toNat : Nat) : Int) = _
  rw [← e]
  rfl
def restLast (l : List Pc) : Prop := ∀ k p, l[k]? = some p → p.1 = 2 → k + 1 = l.length
theorem wrong_facts {s : ByteArray} {i : Nat} (h : wrongAt s i = false) : (endAt s i).2 = true ∧ ((endAt s i).1 < s.size → kindAt s i ≠ 2 ∧ bt s (endAt s i).1 = 47) := by
 unfold wrongAt at h
 cases he : (endAt s i).2
 ·rw [he] at h; simp at h
 ·rw [he] at h
  refine ⟨rfl, fun hlt => ?_⟩
  rw [decide_eq_true hlt] at h
  simp at h
  exact h
theorem pc_wf {s : ByteArray} {i : Nat} (hi : i ≤ s.size) (h : wrongAt s i = false) : ((pcAt s i).1 = 0 ∨ (pcAt s i).1 = 1 ∨ (pcAt s i).1 = 2) ∧ ((pcAt s i).1 = 0 → ∀ c ∈ bl (pcAt s i).2, c ≠ 47) := by
 have hg := (wrong_facts h).1
 refine ⟨?_, fun h0 c hc => ?_⟩
 ·show kindAt s i = 0 ∨ _
  rcases kind_cases s i with ⟨h, _⟩ | ⟨h, _⟩ | ⟨h, _⟩
  ·exact .inl h
  ·exact .inr (.inl h)
  ·exact .inr (.inr h)
 ·have h0 : kindAt s i = 0 := h0
  have hf : fromAt s i = i := by unfold fromAt; rw [if_pos h0]
  have he : endAt s i = statE s i := by unfold endAt; rw [if_pos h0]
  have hs := statE_spec s _ i (Nat.le_refl _) hi
  have hc : c ∈ bl (s.extract (fromAt s i) (endAt s i).1) := hc
  rw [hf, he] at hc
  rw [he] at hg
  obtain ⟨j, h1, h2, h3⟩ := mem_bl_extract hs.2.1 hc
  have := hs.2.2.2 hg j h1 h2
  omega
theorem restLast_snoc {l : List Pc} {p : Pc} (h : ∀ q ∈ l, q.1 ≠ 2) : restLast (l ++ [p]) := fun k q hk h2 => by
 by_cases hl : k < l.length
 ·rw [List.getElem?_append_left hl] at hk
  exact absurd h2 (h q (List.mem_of_getElem? hk))
 ·have := (List.getElem?_eq_some_iff.1 hk).1
  rw [List.length_append, List.length_singleton] at this ⊢
  omega
theorem readF_wf (s : ByteArray) : ∀ (n : Nat) (l : List Pc) (a : Nat), s.size - a ≤ n → a ≤ s.size → (readF s l a).2.2 = true → wfP l → ((∀ q ∈ l, q.1 ≠ 2) ∨ (s.size ≤ a ∧ restLast l)) → wfP (readF s l a).1 ∧ restLast (readF s l a).1 ∧ totP (readF s l a).1 ≤ totP l + (s.size - a) ∧ l.length ≤ (readF s l a).1.length ∧ (a < s.size → l.length < (readF s l a).1.length)
 | n, l, a, hn, has, h, hw, hr => by
  by_cases ha : a < s.size
  ·have h1 := endAt_spec s (a + 1) (by omega)
   have h2 := fromAt_ge s (a + 1)
   cases hb : (wrongAt s (a + 1) || twice l (pcAt s (a + 1)))
   ·have hwr : wrongAt s (a + 1) = false := by
     cases hx : wrongAt s (a + 1)
     ·rfl
     ·rw [hx] at hb; cases hb
    have hno : ∀ q ∈ l, q.1 ≠ 2 := by
     rcases hr with hr | ⟨hr, _⟩
     ·exact hr
     ·omega
    rw [readF_on ha hb] at h ⊢
    match n, hn with
    | 0, hn => omega
    | n + 1, hn =>
     have hpw := pc_wf (s := s) (i := a + 1) (by omega) hwr
     have hw2 : wfP (l ++ [pcAt s (a + 1)]) := fun q hq => by
      rcases List.mem_append.1 hq with hq | hq
      ·exact hw q hq
      ·obtain rfl := List.mem_singleton.1 hq
       exact hpw
     have hr2 : (∀ q ∈ l ++ [pcAt s (a + 1)], q.1 ≠ 2) ∨ (s.size ≤ (endAt s (a + 1)).1 ∧ restLast (l ++ [pcAt s (a + 1)])) := by
      by_cases hk : kindAt s (a + 1) = 2
      ·refine .inr ⟨?_, restLast_snoc hno⟩
       by_cases hlt : (endAt s (a + 1)).1 < s.size
       ·exact absurd hk ((wrong_facts hwr).2 hlt).1
       ·omega
      ·refine .inl fun q hq => ?_
       rcases List.mem_append.1 hq with hq | hq
       ·exact hno q hq
       ·obtain rfl := List.mem_singleton.1 hq
        exact hk
     obtain ⟨e1, e2, e3, e4, _⟩ := readF_wf s n _ _ (by omega) h1.2 h hw2 hr2
     have hsz : (pcAt s (a + 1)).2.size = (endAt s (a + 1)).1 - fromAt s (a + 1) := ext_size s h1.1 h1.2
     have ht : totP (l ++ [pcAt s (a + 1)]) = totP l + ((pcAt s (a + 1)).2.size + 1) := by unfold totP; simp
     rw [ht] at e3
     rw [List.length_append, List.length_singleton] at e4
     exact ⟨e1, e2, by omega, by omega, fun _ => by omega⟩
   ·rw [readF_bad ha hb] at h
    cases h
  ·rw [readF_end (by omega)]
   refine ⟨hw, ?_, by show totP l ≤ _; omega, Nat.le_refl _, fun h => absurd h ha⟩
   rcases hr with hr | ⟨_, hr⟩
   ·exact fun k p hk h2 => absurd h2 (hr p (List.mem_of_getElem? hk))
   ·exact hr
theorem split_wf {s : ByteArray} (h : (splitP s).2.2 = true) : wfP (splitP s).1 ∧ restLast (splitP s).1 ∧ totP (splitP s).1 ≤ s.size ∧ (splitP s).1 ≠ [] ∧ s.size ≤ 1024 ∧ splitP s = ((splitP s).1, 0, true) ∧ bt s 0 = 47 ∧ 0 < s.size ∧ splitP s = readF s [] 0 := by
 have hr : splitP s = readP s ∧ s.size ≤ 1024 := by
  unfold splitP capP at h ⊢
  by_cases hc : 1024 < s.size ∧ ((readP s).2.2 = true ∨ 1024 < (readP s).2.1)
  ·rw [if_pos hc] at h; cases h
  ·rw [if_neg hc] at h ⊢
   refine ⟨rfl, ?_⟩
   by_cases hz : 1024 < s.size
   ·exact absurd ⟨hz, .inl h⟩ hc
   ·omega
 obtain ⟨hr, hz⟩ := hr
 rw [hr] at h ⊢
 by_cases h0 : 0 < s.size ∧ bt s 0 = 47
 ·rw [readP_yes h0] at h ⊢
  obtain ⟨e1, e2, e3, e4, e5⟩ := readF_wf s _ [] 0 (Nat.le_refl _) (Nat.zero_le _) h (fun p hp => by cases hp) (.inl fun p hp => by cases hp)
  have h6 := readF_good s _ [] 0 (Nat.le_refl _) h
  refine ⟨e1, e2, by have : totP [] = 0 := rfl; omega, fun e => ?_, hz, ?_, h0.2, h0.1, rfl⟩
  ·have := e5 h0.1
   rw [e] at this
   exact absurd this (Nat.lt_irrefl _)
  ·apply Prod.ext
   ·rfl
   ·exact Prod.ext h6 h
 ·rw [readP_no h0] at h
  cases h
def segEnd (s : ByteArray) (i : Nat) : Nat := scan (fun j => !decide (bt s j = 47)) i (s.size - i)
theorem segEnd_eq {s : ByteArray} {i k : Nat} (h1 : i ≤ k) (h2 : k ≤ s.size) (h3 : ∀ j, i ≤ j → j < k → bt s j ≠ 47) (h4 : k < s.size → bt s k = 47) : segEnd s i = k :=
 scan_eq h1 (by omega) (fun j a b => by simpa using h3 j a b) (fun h => by simpa using h4 (by omega))
def pcOf (g : ByteArray) : Pc := if 0 < g.size ∧ bt g 0 = 58 then (1, g.extract 1 g.size) else if 0 < g.size ∧ bt g 0 = 42 then (2, g.extract 1 g.size) else (0, g)
theorem nameB_not47 {c : Int} (h : nameB c = true) : c ≠ 47 := by
 intro e
 rw [e] at h
 exact absurd h (by decide)
theorem end_seg {s : ByteArray} {i : Nat} (hi : i ≤ s.size) (h : wrongAt s i = false) : segEnd s i = (endAt s i).1 := by
 obtain ⟨hg, hx⟩ := wrong_facts h
 have he := endAt_spec s i hi
 have hf := fromAt_ge s i
 refine segEnd_eq (by omega) he.2 (fun j h1 h2 => ?_) (fun hlt => (hx hlt).2)
 rcases kind_cases s i with ⟨hk, _⟩ | ⟨hk, hlt, hb⟩ | ⟨hk, hlt, hb⟩
 ·have e : endAt s i = statE s i := by unfold endAt; rw [if_pos hk]
  rw [e] at hg h2
  exact (statE_spec s _ i (Nat.le_refl _) hi).2.2.2 hg j h1 h2
 all_goals
  have e : endAt s i = nameE s (i + 1) := by unfold endAt; rw [if_neg (by omega)]
  rw [e] at hg h2
  by_cases hn : i + 1 < s.size ∧ letB (bt s (i + 1)) = true
  ·rw [nameE_yes hn] at h2
   by_cases hj : j = i
   ·rw [hj, hb]; decide
   ·exact nameB_not47 ((nameEnd_spec s (i + 1) (by omega)).2.2.1 j (by omega) h2)
  ·rw [nameE_no hn] at hg; cases hg
theorem bt_ext0 {s : ByteArray} {a b : Nat} (h : a < b) : bt (s.extract a b) 0 = bt s a := by
 have := ext_bt s (a := a) (b := b) (j := 0) (by omega)
 rwa [Nat.add_zero] at this
theorem ext_one {s : ByteArray} {a b : Nat} : (s.extract a b).extract 1 (s.extract a b).size = s.extract (a + 1) b := by
 apply bl_inj
 rw [bl_extract, bl_extract, bl_extract, ← bl_length (s.extract a b), bl_extract, List.take_length, List.drop_drop]
theorem pcAt_seg {s : ByteArray} {i : Nat} (hi : i ≤ s.size) (h : wrongAt s i = false) : pcAt s i = pcOf (s.extract i (segEnd s i)) := by
 have he := endAt_spec s i hi
 have hf := fromAt_ge s i
 have hz := ext_size s (a := i) (b := (endAt s i).1) (by omega) he.2
 rw [end_seg hi h]
 unfold pcOf
 rcases kind_cases s i with ⟨hk, n1, n2⟩ | ⟨hk, hlt, hb⟩ | ⟨hk, hlt, hb⟩
 ·have hfr : fromAt s i = i := by unfold fromAt; rw [if_pos hk]
  rw [if_neg (fun hc => n1 ⟨by omega, by rw [← bt_ext0 (b := (endAt s i).1) (by omega)]; exact hc.2⟩), if_neg (fun hc => n2 ⟨by omega, by rw [← bt_ext0 (b := (endAt s i).1) (by omega)]; exact hc.2⟩)]
  unfold pcAt
  rw [hk, hfr]
 ·have hfr : fromAt s i = i + 1 := by unfold fromAt; rw [if_neg (by omega)]
  rw [if_pos ⟨by omega, by rw [bt_ext0 (by omega)]; exact hb⟩, ext_one]
  unfold pcAt
  rw [hk, hfr]
 ·have hfr : fromAt s i = i + 1 := by unfold fromAt; rw [if_neg (by omega)]
  rw [if_neg (fun hc => by rw [bt_ext0 (by omega), hb] at hc; exact absurd hc.2 (by decide)), if_pos ⟨by omega, by rw [bt_ext0 (by omega)]; exact hb⟩, ext_one]
  unfold pcAt
  rw [hk, hfr]
def segsGo (s : ByteArray) : Nat → Nat → List ByteArray
 | 0, _ => []
 | n + 1, a => if a < s.size then s.extract (a + 1) (segEnd s (a + 1)) :: segsGo s n (segEnd s (a + 1)) else []
theorem segEnd_ge (s : ByteArray) (i : Nat) : i ≤ segEnd s i := (scan_spec _ _ i).1
def segsP (s : ByteArray) : List ByteArray := segsGo s s.size 0
theorem readF_segs (s : ByteArray) : ∀ (n : Nat) (l : List Pc) (a : Nat), s.size - a ≤ n → (readF s l a).2.2 = true → (readF s l a).1 = l ++ (segsGo s n a).map pcOf
 | n, l, a, hn, h => by
  by_cases ha : a < s.size
  ·have h1 := endAt_spec s (a + 1) (by omega)
   have h2 := fromAt_ge s (a + 1)
   cases hb : (wrongAt s (a + 1) || twice l (pcAt s (a + 1)))
   ·have hwr : wrongAt s (a + 1) = false := by
     cases hx : wrongAt s (a + 1)
     ·rfl
     ·rw [hx] at hb; cases hb
    rw [readF_on ha hb] at h ⊢
    match n, hn with
    | 0, hn => omega
    | n + 1, hn =>
     rw [readF_segs s n _ _ (by omega) h, List.append_assoc]
     have e : segsGo s (n + 1) a = s.extract (a + 1) (segEnd s (a + 1)) :: segsGo s n (segEnd s (a + 1)) := by
      conv => lhs; unfold segsGo
      rw [if_pos ha]
     rw [e, List.map_cons, ← pcAt_seg (by omega) hwr, end_seg (by omega) hwr]
     rfl
   ·rw [readF_bad ha hb] at h
    cases h
  ·rw [readF_end (by omega)]
   have e : segsGo s n a = [] := by
    cases n with
    | zero => rfl
    | succ n =>
     conv => lhs; unfold segsGo
     rw [if_neg ha]
   rw [e]
   simp
theorem split_segs {s : ByteArray} (h : (splitP s).2.2 = true) : (splitP s).1 = (segsP s).map pcOf := by
 obtain ⟨_, _, _, _, _, _, _, _, e⟩ := split_wf h
 rw [e] at h ⊢
 rw [readF_segs s s.size [] 0 (by omega) h]
 rfl
end Go.Proofs.YtiohmnhbmmhnhaaGreatDoor
namespace Go.Proofs.YtiohmnhbmmhnhaaGreatDoor
abbrev Prm := ByteArray × ByteArray × Bool
def fitGo : List Pc → ByteArray → Bool → List Prm → Option (List Prm)
 | [], _, more, out => if more = true then none else some out
 | p :: l, left, more, out =>
  if more = false then none
  else if p.1 = 2 then some (out ++ [(p.2, left, true)])
  else if (p.1 = 0 ∧ (cutW left 47).1 ≠ p.2) ∨ (p.1 = 1 ∧ (cutW left 47).1.size = 0) then none
  else fitGo l (cutW left 47).2.1 (cutW left 47).2.2 (if p.1 = 1 then out ++ [(p.2, (cutW left 47).1, true)] else out)
def behindS (s : ByteArray) : ByteArray := s.extract 1 s.size
def fitsP (pattern path : ByteArray) : Option (List Prm) := if (splitP pattern).2.2 = true ∧ isPathB path = true then fitGo (splitP pattern).1 (behindS path) true [] else none
def fitVal (o : Option (List Prm)) : List Prm × Bool := match o with
 | some l => (l, true)
 | none => ([], false)
theorem fitGo_nomore (l : List Pc) (left : ByteArray) (out : List Prm) : fitGo l left false out = if l = [] then some out else none := by
 cases l with
 | nil => rfl
 | cons p l =>
  rw [if_neg (by simp)]
  unfold fitGo
  rfl
theorem cut_seg (s : ByteArray) : (cutW s 47).1.size = segN (bl s) ∧ bl (cutW s 47).1 = (bl s).take (segN (bl s)) ∧ (((cutW s 47).2.2 = true ∧ (bl s).drop (segN (bl s)) = 47 :: bl (cutW s 47).2.1) ∨ ((cutW s 47).2.2 = false ∧ (bl s).drop (segN (bl s)) = [])) := by
 have key : ∀ (l : List Nat), (∃ k, k < l.length ∧ l[k]? = some 47 ∧ (∀ j, j < k → l[j]? ≠ some 47) ∧ segN l = k) ∨ ((∀ j, j < l.length → l[j]? ≠ some 47) ∧ segN l = l.length) := by
  intro l
  induction l with
  | nil => exact .inr ⟨fun j hj => absurd hj (Nat.not_lt_zero _), rfl⟩
  | cons a l ih =>
   unfold segN
   by_cases h : a = 47
   ·rw [if_pos h]
    exact .inl ⟨0, by simp, by simp [h], fun j hj => absurd hj (Nat.not_lt_zero _), rfl⟩
   ·rw [if_neg h]
    rcases ih with ⟨k, h1, h2, h3, h4⟩ | ⟨h1, h2⟩
    ·refine .inl ⟨k + 1, by simpa using h1, by simpa using h2, fun j hj => ?_, by rw [h4]⟩
     cases j with
     | zero => simpa using h
     | succ j => simpa using h3 j (by omega)
    ·refine .inr ⟨fun j hj => ?_, by rw [h2]; rfl⟩
     cases j with
     | zero => simpa using h
     | succ j => simpa using h1 j (by simpa using hj)
 have hbt : ∀ j, j < s.size → (bl s)[j]? = some (bt s j).toNat := fun j hj => by
  unfold bl bt
  rw [List.getElem?_map, List.getD_eq_getElem?_getD]
  have hd : j < s.data.toList.length := by rw [size_eq]; omega
  rw [List.getElem?_eq_getElem hd]
  rfl
 have hto : ∀ j, (bt s j).toNat = 47 ↔ bt s j = 47 := fun j => by have := bt_nonneg s j; omega
 rcases key (bl s) with ⟨k, h1, h2, h3, h4⟩ | ⟨h1, h2⟩
 ·rw [bl_length] at h1
  have hk : bt s k = 47 := by
   rw [hbt k h1] at h2
   injection h2 with h2
   exact (hto k).1 h2
  have hp : place s 47 = k := place_at h1 hk fun j hj e => h3 j hj (by rw [hbt j (by omega), (hto j).2 e])
  rw [cutW_hit h1 hp, h4]
  refine ⟨ext_size s (Nat.zero_le _) (by omega), by rw [bl_extract, List.drop_zero], .inl ⟨rfl, ?_⟩⟩
  show _ = 47 :: bl (s.extract (k + 1) s.size)
  rw [bl_extract, ← bl_length s, List.take_length]
  have hd : k < (bl s).length := by rw [bl_length]; omega
  rw [List.drop_eq_getElem_cons hd]
  congr 1
  rw [List.getElem?_eq_getElem hd] at h2
  injection h2
 ·rw [bl_length] at h1 h2
  have hp : place s 47 = s.size := place_none fun j hj e => h1 j hj (by rw [hbt j hj, (hto j).2 e])
  rw [cutW_miss hp, h2]
  exact ⟨rfl, by rw [← bl_length s, List.take_length], .inr ⟨rfl, by rw [← bl_length s, List.drop_length]⟩⟩
theorem pc_fits {p : Pc} (hp : (p.1 = 0 ∨ p.1 = 1 ∨ p.1 = 2) ∧ (p.1 = 0 → ∀ c ∈ bl p.2, c ≠ 47)) (h2 : p.1 ≠ 2) (l : List Nat) (r : List Nat) (hr : r = [] ∨ ∃ t, r = 47 :: t) :
  fitsS (symP p ++ r) l = (decide (¬ ((p.1 = 0 ∧ l.take (segN l) ≠ bl p.2) ∨ (p.1 = 1 ∧ segN l = 0))) && fitsS r (l.drop (segN l))) := by
 rcases hp.1 with h0 | h1 | h
 ·have e : symP p = bl p.2 := by unfold symP; rw [if_neg (by omega), if_neg (by omega)]
  rw [e]
  have hns := hp.2 h0
  have hlt : ∀ c ∈ bl p.2, c < 256 := fun c hc => bl_lt hc
  rw [Bool.eq_iff_iff, fitsS_text _ hlt]
  simp only [Bool.and_eq_true, decide_eq_true_eq]
  have seg_app : ∀ (a b : List Nat), (∀ c ∈ a, c ≠ 47) → segN (a ++ b) = a.length + segN b := by
   intro a b ha
   induction a with
   | nil => simp
   | cons c a ih =>
    rw [List.cons_append]
    conv => lhs; unfold segN
    rw [if_neg (ha c (List.mem_cons_self ..)), ih fun d hd => ha d (List.mem_cons_of_mem _ hd), List.length_cons]
    omega
  constructor
  ·rintro ⟨l', rfl, hf⟩
   have hz : segN l' = 0 := by
    rcases hr with rfl | ⟨t, rfl⟩
    ·rw [fits_nil] at hf
     rw [List.isEmpty_iff.1 hf]
     rfl
    ·cases l' with
     | nil => rfl
     | cons c l' =>
      rw [fits_byte (by decide)] at hf
      simp at hf
      unfold segN
      rw [if_pos hf.1]
   have hs := seg_app (bl p.2) l' hns
   rw [hs, hz, Nat.add_zero]
   refine ⟨?_, ?_⟩
   ·rintro (⟨_, h⟩ | ⟨h, _⟩)
    ·exact h (List.take_left' rfl)
    ·omega
   ·rw [List.drop_left' rfl]
    exact hf
  ·rintro ⟨h, hf⟩
   have h3 : l.take (segN l) = bl p.2 := Classical.byContradiction fun hne => h (.inl ⟨h0, hne⟩)
   exact ⟨l.drop (segN l), by rw [← h3, List.take_append_drop], hf⟩
 ·have e : symP p = [1000] := by unfold symP; rw [if_pos h1]
  rw [e]
  show fitsS (1000 :: r) l = _
  rw [fits_param]
  congr 1
  by_cases hz : segN l = 0
  ·rw [decide_eq_false (by omega), decide_eq_false (fun hn => hn (.inr ⟨h1, hz⟩))]
  ·rw [decide_eq_true (by omega), decide_eq_true]
   rintro (⟨h, _⟩ | ⟨_, h⟩)
   ·omega
   ·exact hz h
 ·exact absurd h h2
theorem fit_sym : ∀ (l : List Pc) (left : ByteArray) (out : List Prm), l ≠ [] → wfP l → restLast l → (fitGo l left true out).isSome = fitsS (symPat l) (bl left)
 | [], _, _, h, _, _ => absurd rfl h
 | p :: l, left, out, _, hw, hr => by
  have hp := hw p (List.mem_cons_self ..)
  obtain ⟨c1, c2, c3⟩ := cut_seg left
  unfold fitGo
  rw [if_neg (by simp)]
  by_cases h2 : p.1 = 2
  ·have hl : l = [] := by
    have := hr 0 p rfl h2
    rw [List.length_cons] at this
    exact List.eq_nil_of_length_eq_zero (by omega)
   rw [if_pos h2, hl, symPat_big (.inr h2), if_neg (by omega)]
   show true = fitsS (1001 :: []) _
   rw [fits_rest]
   rfl
  ·rw [if_neg h2]
   show _ = fitsS (symP p ++ symTail l) (bl left)
   rw [pc_fits hp h2 (bl left) (symTail l) (symTail_form l)]
   have hcond : ((p.1 = 0 ∧ (cutW left 47).1 ≠ p.2) ∨ (p.1 = 1 ∧ (cutW left 47).1.size = 0)) ↔ ((p.1 = 0 ∧ (bl left).take (segN (bl left)) ≠ bl p.2) ∨ (p.1 = 1 ∧ segN (bl left) = 0)) := by
    rw [← c2, ← c1]
    constructor
    ·rintro (⟨h, hn⟩ | h)
     ·exact .inl ⟨h, fun e => hn (bl_inj e)⟩
     ·exact .inr h
    ·rintro (⟨h, hn⟩ | h)
     ·exact .inl ⟨h, fun e => hn (by rw [e])⟩
     ·exact .inr h
   by_cases hc : (p.1 = 0 ∧ (cutW left 47).1 ≠ p.2) ∨ (p.1 = 1 ∧ (cutW left 47).1.size = 0)
   ·rw [if_pos hc, decide_eq_false (fun hn => hn (hcond.1 hc)), Bool.false_and]
    rfl
   ·have hdn : ¬ ((p.1 = 0 ∧ (bl left).take (segN (bl left)) ≠ bl p.2) ∨ (p.1 = 1 ∧ segN (bl left) = 0)) := fun hn => hc (hcond.2 hn)
    rw [if_neg hc, decide_eq_true hdn, Bool.true_and]
    have hw' : wfP l := fun q hq => hw q (List.mem_cons_of_mem _ hq)
    have hr' : restLast l := fun k q hk hq => by
     have := hr (k + 1) q (by simpa using hk) hq
     rw [List.length_cons] at this
     omega
    rcases c3 with ⟨m, hd⟩ | ⟨m, hd⟩
    ·rw [m, hd]
     cases l with
     | nil =>
      unfold fitGo
      rfl
     | cons q l =>
      rw [fit_sym (q :: l) _ _ (by simp) hw' hr']
      show _ = fitsS (47 :: (symP q ++ symTail l)) (47 :: _)
      rw [fits_byte (by decide)]
      simp
      rfl
    ·rw [m, hd, fitGo_nomore]
     cases l with
     | nil => rfl
     | cons q l =>
      rw [if_neg (by simp)]
      show false = fitsS (47 :: (symP q ++ symTail l)) []
      rw [fits_byte_nil (by decide)]
end Go.Proofs.YtiohmnhbmmhnhaaGreatDoor
namespace Go.Proofs.YtiohmnhbmmhnhaaGreatDoor
def cntT : Tr → Nat
 | .none => 0
 | .node _ kids param rest => 1 + cntT param + cntT rest + cntT kids
 | .kid _ t more => cntT t + cntT more
def pathsT : Tr → List (List Nat)
 | .none => []
 | .node _ kids param rest => [] :: (pathsT kids ++ ((pathsT param).map (1000 :: ·) ++ (pathsT rest).map (1001 :: ·)))
 | .kid text t more => (pathsT t).map (bl text ++ ·) ++ pathsT more
theorem paths_length : ∀ T : Tr, (pathsT T).length = cntT T
 | .none => rfl
 | .node e kids param rest => by
  unfold pathsT cntT
  simp only [List.length_cons, List.length_append, List.length_map]
  rw [paths_length kids, paths_length param, paths_length rest]
  omega
 | .kid text t more => by
  unfold pathsT cntT
  rw [List.length_append, List.length_map, paths_length t, paths_length more]
def NodeP (W : List (List Nat)) (p : List Nat) : Prop :=
 p ≠ [] ∧ (∃ x ∈ W, p <+: x) ∧ (p ∈ W ∨ (∃ q c, 1000 ≤ c ∧ p = q ++ [c]) ∨ (∃ c, 1000 ≤ c ∧ ∃ x ∈ W, p ++ [c] <+: x) ∨ ∃ c d, c ≠ d ∧ (∃ x ∈ W, p ++ [c] <+: x) ∧ ∃ y ∈ W, p ++ [d] <+: y)
theorem head_pre {p x : List Nat} {c : Nat} (h : p <+: x) (hp : p.head? = some c) : x.head? = some c := by
 obtain ⟨t, rfl⟩ := h
 cases p with
 | nil => cases hp
 | cons a p => exact hp
theorem pre_cases {p m : List Nat} {x : List Nat} (h1 : p <+: x) (h2 : m <+: x) : (∃ p', p = m ++ p') ∨ ∃ d t, m = p ++ d :: t := by
 rcases Nat.lt_or_ge p.length m.length with h | h
 ·obtain ⟨t, ht⟩ := List.prefix_of_prefix_length_le h1 h2 (Nat.le_of_lt h)
  cases t with
  | nil => rw [List.append_nil] at ht; rw [ht] at h; exact absurd h (Nat.lt_irrefl _)
  | cons d t => exact .inr ⟨d, t, ht.symm⟩
 ·obtain ⟨t, ht⟩ := List.prefix_of_prefix_length_le h2 h1 h
  exact .inl ⟨t, ht.symm⟩
theorem node_below {W R : List (List Nat)} {m : List Nat} {c : Nat} (hc : m.head? = some c) (hW : ∀ x, (x ∈ W ∧ x.head? = some c) ↔ ∃ r ∈ R, x = m ++ r) (hn : NodeP W m)
  (hno : ∀ p d t, m = p ++ d :: t → p ≠ [] → d < 1000 ∧ ∀ e ∈ p, e < 1000) (p : List Nat) : (p.head? = some c ∧ NodeP W p) ↔ ∃ p', p = m ++ p' ∧ (p' = [] ∨ NodeP R p') := by
 have happ : ∀ r : List Nat, (m ++ r).head? = some c := fun r => head_pre (List.prefix_append m r) hc
 have cancel : ∀ a b : List Nat, m ++ a <+: m ++ b ↔ a <+: b := fun a b => List.prefix_append_right_inj m
 constructor
 ·rintro ⟨hp, hne, ⟨x, hx, hpx⟩, h⟩
  obtain ⟨r, hr, rfl⟩ := (hW x).1 ⟨hx, head_pre hpx hp⟩
  rcases pre_cases hpx (List.prefix_append m r) with ⟨p', rfl⟩ | ⟨d, t, hd⟩
  ·refine ⟨p', rfl, ?_⟩
   by_cases e : p' = []
   ·exact .inl e
   ·refine .inr ⟨e, ⟨r, hr, (cancel _ _).1 hpx⟩, ?_⟩
    rcases h with h | ⟨q, a, ha, h⟩ | ⟨a, ha, y, hy, h⟩ | ⟨a, b, hab, ⟨y, hy, h1⟩, z, hz, h2⟩
    ·obtain ⟨r', hr', h'⟩ := (hW _).1 ⟨h, hp⟩
     exact .inl (by rw [List.append_cancel_left h']; exact hr')
    ·refine .inr (.inl ?_)
     obtain ⟨p0, b, rfl⟩ : ∃ p0 b, p' = p0 ++ [b] := ⟨p'.dropLast, p'.getLast e, (List.dropLast_concat_getLast e).symm⟩
     rw [← List.append_assoc] at h
     have h3 := (List.append_inj' h rfl).2
     obtain rfl : b = a := (List.cons.inj h3).1
     exact ⟨p0, b, ha, rfl⟩
    ·rw [List.append_assoc] at h
     obtain ⟨r', hr', rfl⟩ := (hW y).1 ⟨hy, head_pre h (happ _)⟩
     exact .inr (.inr (.inl ⟨a, ha, r', hr', (cancel _ _).1 h⟩))
    ·rw [List.append_assoc] at h1 h2
     obtain ⟨r1, hr1, rfl⟩ := (hW y).1 ⟨hy, head_pre h1 (happ _)⟩
     obtain ⟨r2, hr2, rfl⟩ := (hW z).1 ⟨hz, head_pre h2 (happ _)⟩
     exact .inr (.inr (.inr ⟨a, b, hab, ⟨r1, hr1, (cancel _ _).1 h1⟩, r2, hr2, (cancel _ _).1 h2⟩))
  ·exfalso
   obtain ⟨n1, n2⟩ := hno p d t hd hne
   have next : ∀ a y, y ∈ W → p ++ [a] <+: y → a = d := fun a y hy h => by
    have hya : y.head? = some c := head_pre ((List.prefix_append p [a]).trans h) hp
    obtain ⟨r', _, rfl⟩ := (hW y).1 ⟨hy, hya⟩
    rw [hd, List.append_assoc] at h
    have h5 := (List.prefix_append_right_inj p).1 h
    have h6 := List.cons_prefix_cons.1 h5
    exact h6.1
   rcases h with h | ⟨q, a, ha, h⟩ | ⟨a, ha, y, hy, h⟩ | ⟨a, b, hab, ⟨y, hy, h1⟩, z, hz, h2⟩
   ·obtain ⟨r', _, h'⟩ := (hW _).1 ⟨h, hp⟩
    rw [hd] at h'
    have := congrArg List.length h'
    simp at this
   ·have := n2 a (by rw [h]; simp)
    omega
   ·have := next a y hy h
    omega
   ·exact hab ((next a y hy h1).trans (next b z hz h2).symm)
 ·rintro ⟨p', rfl, rfl | ⟨hne, ⟨r, hr, hpr⟩, h⟩⟩
  ·rw [List.append_nil]
   exact ⟨hc, hn⟩
  ·have memW : ∀ r ∈ R, m ++ r ∈ W := fun r hr => ((hW _).2 ⟨r, hr, rfl⟩).1
   have up : ∀ (a : List Nat) (r : List Nat), a <+: r → m ++ a <+: m ++ r := fun a r h => (cancel _ _).2 h
   refine ⟨happ _, (by intro e; exact hne (List.append_eq_nil_iff.1 e).2), ⟨m ++ r, memW r hr, up _ _ hpr⟩, ?_⟩
   rcases h with h | ⟨q, a, ha, rfl⟩ | ⟨a, ha, y, hy, h⟩ | ⟨a, b, hab, ⟨y, hy, h1⟩, z, hz, h2⟩
   ·exact .inl (memW _ h)
   ·exact .inr (.inl ⟨m ++ q, a, ha, (List.append_assoc _ _ _).symm⟩)
   ·exact .inr (.inr (.inl ⟨a, ha, m ++ y, memW y hy, by rw [List.append_assoc]; exact up _ _ h⟩))
   ·exact .inr (.inr (.inr ⟨a, b, hab, ⟨m ++ y, memW y hy, by rw [List.append_assoc]; exact up _ _ h1⟩, m ++ z, memW z hz, by rw [List.append_assoc]; exact up _ _ h2⟩))
def altS : List Pc → Prop
 | [] => True
 | [_] => True
 | p :: q :: r => (p.1 = 0 → q.1 ≠ 0) ∧ altS (q :: r)
def altW (ws : List Pw) : Prop := ∀ x ∈ ws, altS x.2
theorem altS.tail {p : Pc} {r : List Pc} (h : altS (p :: r)) : altS r := by
 cases r with
 | nil => trivial
 | cons q r => exact h.2
theorem altS.snoc {p : Pc} : ∀ {l : List Pc}, altS l → (∀ q, l.getLast? = some q → q.1 = 0 → p.1 ≠ 0) → altS (l ++ [p])
 | [], _, _ => trivial
 | [a], _, h => ⟨h a rfl, trivial⟩
 | a :: b :: r, h, hq => ⟨h.1, altS.snoc (l := b :: r) h.2 (fun q e => hq q (by rw [List.getLast?_cons_cons]; exact e))⟩
theorem altW.edge {k : Int} {ws : List Pw} (h : altW ws) : altW (edgeP k ws) := fun x hx => by
 unfold edgeP at hx
 obtain ⟨y, hy, hx⟩ := List.mem_flatMap.1 hx
 unfold edgeOne at hx
 split at hx
 ·cases hx
 ·rename_i p r e
  split at hx
  ·obtain rfl : x = (y.1, r) := by simpa using hx
   have := h y hy
   rw [e] at this
   exact this.tail
  ·cases hx
theorem altW.group {c : Nat} {ws : List Pw} (h : altW ws) : altW (groupP c ws) := fun x hx => h x (group_mem hx).1
theorem altW.cut {n : Nat} {ws : List Pw} (h : altW ws) (h0 : ∀ x ∈ ws, ∃ p r, x.2 = p :: r ∧ p.1 = 0) : altW (cutP n ws) := fun x hx => by
 unfold cutP at hx
 obtain ⟨y, hy, rfl⟩ := List.mem_map.1 hx
 have h1 := h y hy
 obtain ⟨p, r, e, hp⟩ := h0 y hy
 unfold cutOne
 dsimp only
 rw [e] at h1 ⊢
 split
 ·exact h1.tail
 ·cases r with
  | nil => trivial
  | cons q r => exact ⟨fun _ => h1.1 hp, h1.2⟩
theorem stepsGo_alt (l : List Pc) : ∀ (k : Nat) (t : ByteArray) (out : List Pc), (k = 0 → t.size = 0) → altS out → (∀ q, out.getLast? = some q → q.1 ≠ 0) → altS (stepsGo l k t out) := by
 induction l with
 | nil =>
  intro k t out _ ha hl
  by_cases ht : t.size = 0
  ·rw [steps_end ht]; exact ha
  ·rw [steps_end_text ht]
   exact ha.snoc fun q e h => absurd h (hl q e)
 | cons p l ih =>
  intro k t out ht ha hl
  by_cases hp : p.1 = 0
  ·by_cases hk : k = 0
   ·rw [steps_first_text hp hk]
    exact ih _ _ _ (fun h => absurd h (Nat.succ_ne_zero _)) ha hl
   ·rw [steps_text hp hk]
    exact ih _ _ _ (fun h => absurd h (Nat.succ_ne_zero _)) ha hl
  ·by_cases hk : k = 0
   ·rw [steps_first_edge hp hk (ht hk)]
    refine ih _ _ _ (fun h => absurd h (Nat.succ_ne_zero _)) (ha.snoc fun q e h => absurd h (hl q e)) fun q e => ?_
    have e' : p = q := by simpa using e
    rw [← e']
    exact hp
   ·rw [steps_edge hp hk]
    refine ih _ _ _ (fun h => absurd h (Nat.succ_ne_zero _)) (((ha.snoc fun q e h => absurd h (hl q e))).snoc fun q e _ => ?_) fun q e => ?_
    ·exact hp
    ·have e' : p = q := by simpa using e
     rw [← e']
     exact hp
theorem steps_alt (l : List Pc) : altS (stepsP l) := stepsGo_alt l 0 _ [] (fun _ => rfl) trivial (fun q e => by cases e)
theorem ways_alt (ls : List (List Pc)) : altW (waysP ls) := fun x hx => by
 obtain ⟨l, _, e, _⟩ := waysGo_mem hx
 rw [e]
 exact steps_alt l
theorem comOne_max (y : ByteArray) : ∀ (n : Nat) (t : ByteArray), t.size ≤ n → bl (comOne y t) = bl t ∨ ∃ a, bl (comOne y t) ++ [a] <+: bl t ∧ ¬ bl (comOne y t) ++ [a] <+: bl y
 | n, t, hn => by
  cases h : preB y t
  ·obtain ⟨h0, h1⟩ := comOne_no h
   have hz := ext_size t (a := 0) (b := t.size - 1) (by omega) (by omega)
   have hb : bl (t.extract 0 (t.size - 1)) = (bl t).take (t.size - 1) := by rw [bl_extract, List.drop_zero]
   have hnp : ¬ bl t <+: bl y := fun hc => by
    rw [preB_bl.2 hc] at h
    cases h
   match n, hn with
   | 0, hn => omega
   | n + 1, hn =>
    refine .inr ?_
    rcases comOne_max y n (t.extract 0 (t.size - 1)) (by omega) with h2 | ⟨a, h2, h3⟩
    ·have hl : t.size - 1 < (bl t).length := by rw [bl_length]; omega
     have e : bl t = (bl t).take (t.size - 1) ++ [(bl t)[t.size - 1]] := by
      rw [← List.take_succ_eq_append_getElem hl, List.take_of_length_le (by rw [bl_length]; omega)]
     refine ⟨(bl t)[t.size - 1], ?_, ?_⟩
     ·rw [h1, h2, hb, ← e]
      exact List.prefix_refl _
     ·rw [h1, h2, hb, ← e]
      exact hnp
    ·refine ⟨a, ?_, ?_⟩
     ·rw [h1]
      refine h2.trans ?_
      rw [hb]
      exact List.take_prefix _ _
     ·rw [h1]; exact h3
  ·rw [comOne_yes h]
   exact .inl rfl
theorem foldl_max (l : List Pw) : ∀ t : ByteArray, bl (l.foldl (fun t x => comOne (txt x) t) t) = bl t ∨ ∃ y ∈ l, ∃ a, bl (l.foldl (fun t x => comOne (txt x) t) t) ++ [a] <+: bl t ∧ ¬ bl (l.foldl (fun t x => comOne (txt x) t) t) ++ [a] <+: bl (txt y) := by
 induction l with
 | nil => exact fun t => .inl rfl
 | cons y l ih =>
  intro t
  rw [List.foldl_cons]
  rcases ih (comOne (txt y) t) with h | ⟨z, hz, a, h1, h2⟩
  ·rw [h]
   rcases comOne_max (txt y) _ t (Nat.le_refl _) with h2 | ⟨a, h2, h3⟩
   ·exact .inl h2
   ·exact .inr ⟨y, List.mem_cons_self .., a, h2, h3⟩
  ·exact .inr ⟨z, List.mem_cons_of_mem _ hz, a, h1.trans (comOne_pre (txt y) _ t (Nat.le_refl _)), h2⟩
theorem common_max {G : List Pw} (hne : G ≠ []) : (∃ x ∈ G, bl (txt x) = bl (commonP G)) ∨ ∃ a b, a ≠ b ∧ (∃ x ∈ G, bl (commonP G) ++ [a] <+: bl (txt x)) ∧ ∃ y ∈ G, bl (commonP G) ++ [b] <+: bl (txt y) := by
 cases G with
 | nil => exact absurd rfl hne
 | cons x l =>
  rcases foldl_max (x :: l) (txt x) with h | ⟨y, hy, a, h1, h2⟩
  ·exact .inl ⟨x, List.mem_cons_self .., h.symm⟩
  ·have hp : bl (commonP (x :: l)) <+: bl (txt y) := common_pre hy
   obtain ⟨t, ht⟩ := hp
   cases t with
   | nil =>
    rw [List.append_nil] at ht
    exact .inl ⟨y, hy, ht.symm⟩
   | cons b t =>
    refine .inr ⟨a, b, ?_, ⟨x, List.mem_cons_self .., h1⟩, y, hy, ⟨t, by rw [← ht, List.append_assoc]; rfl⟩⟩
    rintro rfl
    exact h2 ⟨t, by rw [← ht, List.append_assoc]; rfl⟩
def syms (ws : List Pw) : List (List Nat) := ws.map fun x => symS x.2
theorem mem_syms {ws : List Pw} {y : List Nat} : y ∈ syms ws ↔ ∃ x ∈ ws, symS x.2 = y := List.mem_map
theorem head_param {x : Pw} {p : Pc} {r : List Pc} (hx : x.2 = p :: r) (h : p.1 = 1) : (symS x.2).head? = some 1000 := by rw [hx, sym_param h]; rfl
theorem head_rest {x : Pw} {p : Pc} {r : List Pc} (hx : x.2 = p :: r) (h : p.1 = 2) : (symS x.2).head? = some 1001 := by rw [hx, sym_rest h]; rfl
theorem head_text {x : Pw} {p : Pc} {r : List Pc} (hx : x.2 = p :: r) (h : p.1 = 0) (hz : 0 < p.2.size) : ∃ c : Nat, (symS x.2).head? = some c ∧ bt p.2 0 = (c : Int) ∧ c < 256 := by
 obtain ⟨c, t, e, hb⟩ := bl_head hz
 refine ⟨c, by rw [hx, sym_text h, e]; rfl, hb, ?_⟩
 exact bl_lt (s := p.2) (by rw [e]; exact List.mem_cons_self ..)
theorem edge_rows {k : Int} {e : Nat} (hk : (k = 1 ∧ e = 1000) ∨ (k = 2 ∧ e = 1001)) {ws : List Pw} (hw : wfW ws) (y : List Nat) : (y ∈ syms ws ∧ y.head? = some e) ↔ ∃ r ∈ syms (edgeP k ws), y = [e] ++ r := by
 constructor
 ·rintro ⟨hy, hh⟩
  obtain ⟨x, hx, rfl⟩ := mem_syms.1 hy
  obtain ⟨w1, w2⟩ := hw x hx
  cases e2 : x.2 with
  | nil => rw [e2] at hh; cases hh
  | cons p r =>
   have hkp := w2 p (by rw [e2]; exact List.mem_cons_self ..)
   have hpk : p.1 = k := by
    rcases hkp with h | h | h
    ·obtain ⟨c, h1, _, h3⟩ := head_text e2 h (w1 p (by rw [e2]; exact List.mem_cons_self ..) h)
     rw [h1] at hh
     have := Option.some.inj hh
     omega
    ·rw [head_param e2 h] at hh
     have := Option.some.inj hh
     omega
    ·rw [head_rest e2 h] at hh
     have := Option.some.inj hh
     omega
   refine ⟨symS r, mem_syms.2 ⟨(x.1, r), ?_, rfl⟩, ?_⟩
   ·unfold edgeP
    refine List.mem_flatMap.2 ⟨x, hx, ?_⟩
    unfold edgeOne
    rw [e2]
    dsimp only
    rw [if_pos hpk]
    exact List.mem_singleton.2 rfl
   ·rcases hk with ⟨rfl, rfl⟩ | ⟨rfl, rfl⟩
    ·exact sym_param hpk r
    ·exact sym_rest hpk r
 ·rintro ⟨r, hr, rfl⟩
  obtain ⟨z, hz, rfl⟩ := mem_syms.1 hr
  unfold edgeP at hz
  obtain ⟨x, hx, hz⟩ := List.mem_flatMap.1 hz
  unfold edgeOne at hz
  split at hz
  ·cases hz
  ·rename_i p r e2
   split at hz
   ·rename_i hpk
    obtain rfl : z = (x.1, r) := by simpa using hz
    refine ⟨mem_syms.2 ⟨x, hx, ?_⟩, rfl⟩
    rw [e2]
    rcases hk with ⟨rfl, rfl⟩ | ⟨rfl, rfl⟩
    ·exact sym_param hpk r
    ·exact sym_rest hpk r
   ·cases hz
theorem group_rows {c : Nat} (hc : c < 256) {ws : List Pw} (hw : wfW ws) (y : List Nat) : (y ∈ syms ws ∧ y.head? = some c) ↔ ∃ r ∈ syms (cutP (commonP (groupP c ws)).size (groupP c ws)), y = bl (commonP (groupP c ws)) ++ r := by
 have hcut : ∀ x ∈ groupP c ws, symS x.2 = bl (commonP (groupP c ws)) ++ symS (cutOne (commonP (groupP c ws)).size x).2 := fun x hx => by
  obtain ⟨p, r, e, h0, _⟩ := group_first hw hx
  exact sym_cut e h0 (common_pre hx)
 constructor
 ·rintro ⟨hy, hh⟩
  obtain ⟨x, hx, rfl⟩ := mem_syms.1 hy
  obtain ⟨w1, w2⟩ := hw x hx
  have hg : x ∈ groupP c ws := by
   rw [groupP_filter hw]
   refine List.mem_filter.2 ⟨hx, ?_⟩
   unfold isG
   cases e2 : x.2 with
   | nil => rw [e2] at hh; cases hh
   | cons p r =>
    dsimp only
    have hkp := w2 p (by rw [e2]; exact List.mem_cons_self ..)
    rcases hkp with h | h | h
    ·obtain ⟨a, h1, h2, h3⟩ := head_text e2 h (w1 p (by rw [e2]; exact List.mem_cons_self ..) h)
     rw [h1] at hh
     have := Option.some.inj hh
     subst this
     rw [decide_eq_true h, decide_eq_true h2]
     rfl
    ·rw [head_param e2 h] at hh
     have := Option.some.inj hh
     omega
    ·rw [head_rest e2 h] at hh
     have := Option.some.inj hh
     omega
  exact ⟨_, mem_syms.2 ⟨cutOne _ x, List.mem_map_of_mem hg, rfl⟩, hcut x hg⟩
 ·rintro ⟨r, hr, rfl⟩
  obtain ⟨z, hz, rfl⟩ := mem_syms.1 hr
  obtain ⟨x, hx, rfl⟩ := List.mem_map.1 hz
  rw [← hcut x hx]
  refine ⟨mem_syms.2 ⟨x, (group_mem hx).1, rfl⟩, ?_⟩
  obtain ⟨p, r, e, h0, t, ht⟩ := group_first hw hx
  rw [e, sym_text h0, ht]
  rfl
theorem big_head {q : Pc} (r : List Pc) (h : q.1 = 1 ∨ q.1 = 2) : ∃ e t, 1000 ≤ e ∧ symS (q :: r) = e :: t := by
 rcases h with h | h
 ·exact ⟨1000, _, Nat.le_refl _, sym_param h r⟩
 ·exact ⟨1001, _, by decide, sym_rest h r⟩
theorem group_node {c : Nat} {ws : List Pw} (hw : wfW ws) (ha : altW ws) (hne : groupP c ws ≠ []) : NodeP (syms ws) (bl (commonP (groupP c ws))) := by
 obtain ⟨t, ht⟩ := common_head hw hne
 have hsym : ∀ x ∈ groupP c ws, ∃ p r, x.2 = p :: r ∧ p.1 = 0 ∧ symS x.2 = bl (txt x) ++ symS r := fun x hx => by
  obtain ⟨p, r, e, h0, _⟩ := group_first hw hx
  exact ⟨p, r, e, h0, by rw [e, sym_text h0]; unfold txt; rw [e]⟩
 refine ⟨by rw [ht]; simp, ?_, ?_⟩
 ·obtain ⟨x, hx⟩ := List.exists_mem_of_ne_nil _ hne
  obtain ⟨p, r, e, h0, hs⟩ := hsym x hx
  exact ⟨_, mem_syms.2 ⟨x, (group_mem hx).1, rfl⟩, by rw [hs]; exact (common_pre hx).trans (List.prefix_append _ _)⟩
 ·rcases common_max hne with ⟨x, hx, h⟩ | ⟨a, b, hab, ⟨x, hx, h1⟩, y, hy, h2⟩
  ·obtain ⟨p, r, e, h0, hs⟩ := hsym x hx
   rw [h] at hs
   have hm := mem_syms.2 ⟨x, (group_mem hx).1, rfl⟩
   cases r with
   | nil =>
    refine .inl ?_
    rw [show symS ([] : List Pc) = [] from rfl, List.append_nil] at hs
    rw [← hs]
    exact hm
   | cons q r =>
    have h1 := ha x (group_mem hx).1
    rw [e] at h1
    have hq := h1.1 h0
    have hk := (hw x (group_mem hx).1).2 q (by rw [e]; simp)
    obtain ⟨d, t', hd, hsq⟩ := big_head r (q := q) (by omega)
    exact .inr (.inr (.inl ⟨d, hd, _, hm, by rw [hs, hsq]; exact ⟨t', by simp⟩⟩))
  ·obtain ⟨_, _, _, _, hs1⟩ := hsym x hx
   obtain ⟨_, _, _, _, hs2⟩ := hsym y hy
   exact .inr (.inr (.inr ⟨a, b, hab, ⟨_, mem_syms.2 ⟨x, (group_mem hx).1, rfl⟩, by rw [hs1]; exact h1.trans (List.prefix_append _ _)⟩, _, mem_syms.2 ⟨y, (group_mem hy).1, rfl⟩, by rw [hs2]; exact h2.trans (List.prefix_append _ _)⟩))
def pathsL (L : List (ByteArray × Tr)) : List (List Nat) := L.flatMap fun x => (pathsT x.2).map (bl x.1 ++ ·)
theorem paths_chain (L : List (ByteArray × Tr)) : pathsT (chain L) = pathsL L := by
 induction L with
 | nil => rfl
 | cons x L ih =>
  show (pathsT x.2).map (bl x.1 ++ ·) ++ pathsT (chain L) = _
  rw [ih]
  rfl
def NodesOk (T : Tr) (W : List (List Nat)) : Prop := (∀ p, p ∈ pathsT T ↔ p = [] ∨ NodeP W p) ∧ (pathsT T).Nodup
theorem kids_nodes {ws : List Pw} (hw : wfW ws) (ha : altW ws) {B : List Pw → Tr} (hB : ∀ c, c < 256 → groupP c ws ≠ [] → NodesOk (B (cutP (commonP (groupP c ws)).size (groupP c ws))) (syms (cutP (commonP (groupP c ws)).size (groupP c ws)))) :
  ∀ k, k ≤ 256 → (∀ p, p ∈ pathsL (kidsL B ws k) ↔ ∃ c, c < k ∧ p.head? = some c ∧ NodeP (syms ws) p) ∧ (pathsL (kidsL B ws k)).Nodup
 | 0, _ => ⟨fun p => ⟨fun h => (by cases h), fun ⟨c, h, _⟩ => absurd h (Nat.not_lt_zero _)⟩, List.nodup_nil⟩
 | k + 1, hk => by
  obtain ⟨ih1, ih2⟩ := kids_nodes hw ha hB k (by omega)
  have e : pathsL (kidsL B ws (k + 1)) = pathsL (kidsL B ws k) ++ pathsL (kidOne B (groupP k ws)) := by
   unfold pathsL
   rw [← List.flatMap_append]
   rfl
  have key : (∀ p, p ∈ pathsL (kidOne B (groupP k ws)) ↔ p.head? = some k ∧ NodeP (syms ws) p) ∧ (pathsL (kidOne B (groupP k ws))).Nodup := by
   unfold kidOne
   by_cases hne : groupP k ws = []
   ·rw [if_pos hne]
    refine ⟨fun p => ⟨fun h => (by cases h), fun ⟨hp, h0, ⟨x, hx, hpx⟩, _⟩ => ?_⟩, List.nodup_nil⟩
    obtain ⟨r, hr, _⟩ := (group_rows (by omega) hw x).1 ⟨hx, head_pre hpx hp⟩
    rw [hne] at hr
    cases hr
   ·rw [if_neg hne]
    obtain ⟨b1, b2⟩ := hB k (by omega) hne
    have hn := node_below (c := k) (m := bl (commonP (groupP k ws))) (by obtain ⟨t, ht⟩ := common_head hw hne; rw [ht]; rfl) (group_rows (by omega) hw) (group_node hw ha hne) (fun p d t hd _ => by
     have h1 : ∀ e ∈ bl (commonP (groupP k ws)), e < 1000 := fun e he => Nat.lt_trans (bl_lt he) (by decide)
     rw [hd] at h1
     exact ⟨h1 d (by simp), fun e he => h1 e (by simp [he])⟩)
    have e2 : pathsL [(commonP (groupP k ws), B (cutP (commonP (groupP k ws)).size (groupP k ws)))] = (pathsT (B (cutP (commonP (groupP k ws)).size (groupP k ws)))).map (bl (commonP (groupP k ws)) ++ ·) := by
     unfold pathsL
     simp
    rw [e2]
    refine ⟨fun p => ?_, ?_⟩
    ·rw [hn p, List.mem_map]
     constructor
     ·rintro ⟨p', hp', rfl⟩
      exact ⟨p', rfl, (b1 p').1 hp'⟩
     ·rintro ⟨p', rfl, hp'⟩
      exact ⟨p', (b1 p').2 hp', rfl⟩
    ·exact List.Pairwise.map _ (fun a b hab h => hab (List.append_cancel_left h)) b2
  rw [e]
  refine ⟨fun p => ?_, ?_⟩
  ·rw [List.mem_append, ih1, key.1]
   constructor
   ·rintro (⟨c, h1, h2⟩ | h)
    ·exact ⟨c, by omega, h2⟩
    ·exact ⟨k, by omega, h⟩
   ·rintro ⟨c, h1, h2⟩
    rcases Nat.lt_or_ge c k with h | h
    ·exact .inl ⟨c, h, h2⟩
    ·obtain rfl : c = k := by omega
     exact .inr h2
  ·rw [List.nodup_append]
   refine ⟨ih2, key.2, fun a ha b hb => ?_⟩
   rintro rfl
   obtain ⟨c, hc, h1, _⟩ := (ih1 a).1 ha
   have h2 := ((key.1 a).1 hb).1
   rw [h1] at h2
   have := Option.some.inj h2
   omega
theorem edge_nodes {k : Int} {e : Nat} (hk : (k = 1 ∧ e = 1000) ∨ (k = 2 ∧ e = 1001)) {ws : List Pw} (hw : wfW ws) {B : List Pw → Tr} (hB : edgeP k ws ≠ [] → NodesOk (B (edgeP k ws)) (syms (edgeP k ws))) :
  (∀ p, p ∈ (pathsT (edgeT B (edgeP k ws))).map (e :: ·) ↔ p.head? = some e ∧ NodeP (syms ws) p) ∧ ((pathsT (edgeT B (edgeP k ws))).map (e :: ·)).Nodup := by
 unfold edgeT
 by_cases hne : edgeP k ws = []
 ·rw [if_pos hne]
  refine ⟨fun p => ⟨fun h => (by cases h), fun ⟨hp, h0, ⟨x, hx, hpx⟩, _⟩ => ?_⟩, List.nodup_nil⟩
  obtain ⟨r, hr, _⟩ := (edge_rows hk hw x).1 ⟨hx, head_pre hpx hp⟩
  rw [hne] at hr
  cases hr
 ·rw [if_neg hne]
  obtain ⟨b1, b2⟩ := hB hne
  obtain ⟨z, hz⟩ := List.exists_mem_of_ne_nil _ hne
  have hze := (edge_rows hk hw ([e] ++ symS z.2)).2 ⟨_, mem_syms.2 ⟨z, hz, rfl⟩, rfl⟩
  have hn := node_below (c := e) (m := [e]) rfl (edge_rows hk hw) ⟨by simp, ⟨_, hze.1, List.prefix_append _ _⟩, .inr (.inl ⟨[], e, by omega, rfl⟩)⟩ (fun p d t hd hp => by
   exfalso
   cases p with
   | nil => exact hp rfl
   | cons a p =>
    have := congrArg List.length hd
    simp at this)
  refine ⟨fun p => ?_, ?_⟩
  ·rw [hn p, List.mem_map]
   constructor
   ·rintro ⟨p', hp', rfl⟩
    exact ⟨p', rfl, (b1 p').1 hp'⟩
   ·rintro ⟨p', rfl, hp'⟩
    exact ⟨p', (b1 p').2 hp', rfl⟩
  ·exact List.Pairwise.map _ (fun a b hab h => hab (List.cons.inj h).2) b2
theorem build_nodes : ∀ (n : Nat) (ws : List Pw), meas ws < n → wfW ws → altW ws → NodesOk (buildP n ws) (syms ws)
 | 0, ws, h, _, _ => absurd h (Nat.not_lt_zero _)
 | n + 1, ws, h, hw, ha => by
  have hk := kids_nodes hw ha (B := buildP n) (fun c hc hne => by
   have h1 : ∀ x ∈ groupP c ws, x.2 ≠ [] ∧ (commonP (groupP c ws)).size ≤ (txt x).size := fun x hx => by
    obtain ⟨_, p, r, e, _⟩ := group_mem hx
    exact ⟨by rw [e]; simp, common_all hx⟩
   have h2 := cut_meas h1 (common_pos hw hne)
   have h3 := group_meas c ws
   have h4 : 0 < (groupP c ws).length := List.length_pos_iff.2 hne
   exact build_nodes n _ (by omega) hw.group.cut (ha.group.cut fun x hx => by obtain ⟨p, r, e, h0, _⟩ := group_first hw hx; exact ⟨p, r, e, h0⟩)) 256 (Nat.le_refl _)
  have hed : ∀ k, edgeP k ws ≠ [] → NodesOk (buildP n (edgeP k ws)) (syms (edgeP k ws)) := fun k hne => by
   have h1 := edge_meas k ws
   have h4 : 0 < (edgeP k ws).length := List.length_pos_iff.2 hne
   exact build_nodes n _ (by omega) hw.edge ha.edge
  have hp := edge_nodes (.inl ⟨rfl, rfl⟩) hw (B := buildP n) (hed 1)
  have hr := edge_nodes (.inr ⟨rfl, rfl⟩) hw (B := buildP n) (hed 2)
  have e : pathsT (buildP (n + 1) ws) = [] :: (pathsL (kidsL (buildP n) ws 256) ++ ((pathsT (edgeT (buildP n) (edgeP 1 ws))).map (1000 :: ·) ++ (pathsT (edgeT (buildP n) (edgeP 2 ws))).map (1001 :: ·))) := by
   rw [← paths_chain]
   rfl
  unfold NodesOk
  rw [e]
  constructor
  ·intro p
   rw [List.mem_cons, List.mem_append, List.mem_append, hk.1, hp.1, hr.1]
   constructor
   ·rintro (rfl | ⟨c, _, _, h⟩ | ⟨_, h⟩ | ⟨_, h⟩)
    ·exact .inl rfl
    ·exact .inr h
    ·exact .inr h
    ·exact .inr h
   ·rintro (rfl | h)
    ·exact .inl rfl
    ·refine .inr ?_
     obtain ⟨h0, ⟨x, hx, hpx⟩, _⟩ := id h
     obtain ⟨z, hz, rfl⟩ := mem_syms.1 hx
     obtain ⟨w1, w2⟩ := hw z hz
     obtain ⟨a, ha⟩ : ∃ a, p.head? = some a := by
      cases p with
      | nil => exact absurd rfl h0
      | cons a p => exact ⟨a, rfl⟩
     have hh := head_pre hpx ha
     cases e2 : z.2 with
     | nil => rw [e2] at hh; cases hh
     | cons q r =>
      rcases w2 q (by rw [e2]; exact List.mem_cons_self ..) with h1 | h1 | h1
      ·obtain ⟨c, g1, _, g3⟩ := head_text e2 h1 (w1 q (by rw [e2]; exact List.mem_cons_self ..) h1)
       rw [g1] at hh
       have := Option.some.inj hh
       exact .inl ⟨a, by omega, ha, h⟩
      ·rw [head_param e2 h1] at hh
       have := Option.some.inj hh
       exact .inr (.inl ⟨by rw [ha, this], h⟩)
      ·rw [head_rest e2 h1] at hh
       have := Option.some.inj hh
       exact .inr (.inr ⟨by rw [ha, this], h⟩)
  ·rw [List.nodup_cons, List.nodup_append, List.nodup_append]
   refine ⟨?_, hk.2, ⟨hp.2, hr.2, ?_⟩, ?_⟩
   ·rw [List.mem_append, List.mem_append, hk.1, hp.1, hr.1]
    rintro (⟨c, _, h, _⟩ | ⟨h, _⟩ | ⟨h, _⟩) <;> cases h
   ·rintro a h1 b h2 rfl
    have g1 := ((hp.1 a).1 h1).1
    have g2 := ((hr.1 a).1 h2).1
    rw [g1] at g2
    cases g2
   ·rintro a h1 b h2 rfl
    obtain ⟨c, hc, g1, _⟩ := (hk.1 a).1 h1
    rcases List.mem_append.1 h2 with h2 | h2
    ·have g2 := ((hp.1 a).1 h2).1
     rw [g1] at g2
     have := Option.some.inj g2
     omega
    ·have g2 := ((hr.1 a).1 h2).1
     rw [g1] at g2
     have := Option.some.inj g2
     omega
end Go.Proofs.YtiohmnhbmmhnhaaGreatDoor
namespace Go.Proofs.YtiohmnhbmmhnhaaGreatDoor
def edgN (l : List Pc) : Nat := l.countP fun p => !decide (p.1 = 0)
def wayF (x : Pw) : Nat := 2 + 2 * edgN x.2
def sumF (ws : List Pw) : Nat := (ws.map wayF).sum
theorem sumF_cons (x : Pw) (ws : List Pw) : sumF (x :: ws) = wayF x + sumF ws := by simp [sumF]
theorem sumF_pos {ws : List Pw} (h : ws ≠ []) : 2 ≤ sumF ws := by
 cases ws with
 | nil => exact absurd rfl h
 | cons x ws => rw [sumF_cons]; unfold wayF; omega
theorem sumF_split (p q r : Pw → Bool) : ∀ (l : List Pw), (∀ x ∈ l, r x = (p x || q x)) → (∀ x ∈ l, ¬ (p x = true ∧ q x = true)) → sumF (l.filter r) = sumF (l.filter p) + sumF (l.filter q)
 | [], _, _ => rfl
 | x :: l, h1, h2 => by
  have ih := sumF_split p q r l (fun y hy => h1 y (List.mem_cons_of_mem _ hy)) (fun y hy => h2 y (List.mem_cons_of_mem _ hy))
  have e1 := h1 x (List.mem_cons_self ..)
  have e2 := h2 x (List.mem_cons_self ..)
  cases hp : p x <;> cases hq : q x
  ·rw [List.filter_cons_of_neg (by rw [e1, hp, hq]; simp), List.filter_cons_of_neg (by rw [hp]; simp), List.filter_cons_of_neg (by rw [hq]; simp), ih]
  ·rw [List.filter_cons_of_pos (by rw [e1, hp, hq]; simp), List.filter_cons_of_neg (by rw [hp]; simp), List.filter_cons_of_pos hq, sumF_cons, sumF_cons, ih]
   omega
  ·rw [List.filter_cons_of_pos (by rw [e1, hp, hq]; simp), List.filter_cons_of_pos hp, List.filter_cons_of_neg (by rw [hq]; simp), sumF_cons, sumF_cons, ih]
   omega
  ·exact absurd ⟨hp, hq⟩ e2
theorem edgN_cons (p : Pc) (l : List Pc) : edgN (p :: l) = (if p.1 = 0 then 0 else 1) + edgN l := by
 unfold edgN
 rw [List.countP_cons]
 by_cases h : p.1 = 0
 ·rw [if_pos h, decide_eq_true h]; simp
 ·rw [if_neg h, decide_eq_false h]; simp; omega
theorem edge_sum {k : Int} (hk : k = 1 ∨ k = 2) (ws : List Pw) : sumF (edgeP k ws) + 2 * (edgeP k ws).length = sumF (ws.filter (isK k)) := by
 rw [edgeP_map]
 have key : ∀ V : List Pw, (∀ x ∈ V, isK k x = true) → sumF (V.map behindP) + 2 * (V.map behindP).length = sumF V := fun V => by
  induction V with
  | nil => intro _; rfl
  | cons x V ih =>
   intro h
   have ih := ih fun y hy => h y (List.mem_cons_of_mem _ hy)
   obtain ⟨p, r, e, hp⟩ := isK_some (h x (List.mem_cons_self ..))
   rw [List.map_cons, sumF_cons, sumF_cons, List.length_cons]
   have e1 : wayF x = 2 + wayF (behindP x) := by
    unfold wayF behindP
    rw [e, edgN_cons, if_neg (by omega)]
    show _ = 2 + (2 + 2 * edgN r)
    omega
   omega
 exact key _ fun x hx => (List.mem_filter.1 hx).2
theorem cut_sum {n : Nat} {ws : List Pw} (h0 : ∀ x ∈ ws, ∃ p r, x.2 = p :: r ∧ p.1 = 0) : sumF (cutP n ws) = sumF ws := by
 induction ws with
 | nil => rfl
 | cons x ws ih =>
  have ih := ih fun y hy => h0 y (List.mem_cons_of_mem _ hy)
  have e : cutP n (x :: ws) = cutOne n x :: cutP n ws := rfl
  obtain ⟨p, r, ex, hp⟩ := h0 x (List.mem_cons_self ..)
  rw [e, sumF_cons, sumF_cons, ih]
  congr 1
  unfold wayF cutOne
  dsimp only
  rw [ex, edgN_cons, if_pos hp]
  split
  ·show 2 + 2 * edgN r = _; omega
  ·show 2 + 2 * edgN ((0, _) :: r) = _
   rw [edgN_cons, if_pos rfl]
def isGk (k : Nat) (x : Pw) : Bool := match x.2 with
 | [] => false
 | p :: _ => decide (p.1 = 0) && decide (bt p.2 0 < (k : Int))
def nGrp (ws : List Pw) : Nat → Nat
 | 0 => 0
 | k + 1 => nGrp ws k + if groupP k ws = [] then 0 else 1
theorem nGrp_zero {ws : List Pw} : ∀ {k : Nat}, nGrp ws k = 0 → ∀ c, c < k → groupP c ws = []
 | 0, _, c, hc => absurd hc (Nat.not_lt_zero _)
 | k + 1, h, c, hc => by
  have e : nGrp ws (k + 1) = nGrp ws k + if groupP k ws = [] then 0 else 1 := rfl
  rw [e] at h
  by_cases he : groupP k ws = []
  ·rw [if_pos he] at h
   rcases Nat.lt_or_ge c k with h1 | h1
   ·exact nGrp_zero h c h1
   ·obtain rfl : c = k := by omega
    exact he
  ·rw [if_neg he] at h
   omega
theorem nGrp_one {ws : List Pw} : ∀ {k : Nat}, nGrp ws k ≤ 1 → ∀ c d, c < k → d < k → groupP c ws ≠ [] → groupP d ws ≠ [] → c = d
 | 0, _, c, _, hc, _, _, _ => absurd hc (Nat.not_lt_zero _)
 | k + 1, h, c, d, hc, hd, h1, h2 => by
  have e : nGrp ws (k + 1) = nGrp ws k + if groupP k ws = [] then 0 else 1 := rfl
  rw [e] at h
  by_cases he : groupP k ws = []
  ·rw [if_pos he] at h
   rcases Nat.lt_or_ge c k with a | a
   ·rcases Nat.lt_or_ge d k with b | b
    ·exact nGrp_one (by omega) c d a b h1 h2
    ·obtain rfl : d = k := by omega
     exact absurd he h2
   ·obtain rfl : c = k := by omega
    exact absurd he h1
  ·rw [if_neg he] at h
   have hz := nGrp_zero (ws := ws) (k := k) (by omega)
   have a : ¬ c < k := fun a => h1 (hz c a)
   have b : ¬ d < k := fun b => h2 (hz d b)
   omega
theorem cnt_chain (L : List (ByteArray × Tr)) : cntT (chain L) = (L.map fun x => cntT x.2).sum := by
 induction L with
 | nil => rfl
 | cons x L ih =>
  show cntT x.2 + cntT (chain L) = _
  rw [ih]
  simp
theorem kids_bound {ws : List Pw} (hw : wfW ws) {B : List Pw → Tr} (hB : ∀ c, c < 256 → groupP c ws ≠ [] → cntT (B (cutP (commonP (groupP c ws)).size (groupP c ws))) + 1 ≤ sumF (groupP c ws)) :
  ∀ k, k ≤ 256 → cntT (chain (kidsL B ws k)) + nGrp ws k ≤ sumF (ws.filter (isGk k))
 | 0, _ => Nat.zero_le _
 | k + 1, hk => by
  have ih := kids_bound hw hB k (by omega)
  have e : kidsL B ws (k + 1) = kidsL B ws k ++ kidOne B (groupP k ws) := rfl
  have e2 : nGrp ws (k + 1) = nGrp ws k + if groupP k ws = [] then 0 else 1 := rfl
  have hs := sumF_split (isGk k) (isG k) (isGk (k + 1)) ws (fun x hx => by
   unfold isGk isG
   cases x.2 with
   | nil => rfl
   | cons p r =>
    dsimp only
    cases decide (p.1 = 0)
    ·rfl
    ·simp only [Bool.true_and]
     rw [Bool.eq_iff_iff, Bool.or_eq_true, decide_eq_true_iff, decide_eq_true_iff, decide_eq_true_iff]
     omega) (fun x hx => by
   unfold isGk isG
   cases x.2 with
   | nil => rintro ⟨h, _⟩; cases h
   | cons p r =>
    dsimp only
    rintro ⟨h1, h2⟩
    rw [Bool.and_eq_true, decide_eq_true_iff, decide_eq_true_iff] at h1 h2
    omega)
  rw [← groupP_filter hw] at hs
  rw [e, cnt_chain, List.map_append, List.sum_append, ← cnt_chain, e2, hs]
  unfold kidOne
  by_cases he : groupP k ws = []
  ·rw [if_pos he, if_pos he]
   simp
   omega
  ·have := hB k (by omega) he
   rw [if_neg he, if_neg he]
   simp
   omega
def OneG (ws : List Pw) : Prop := ∃ c, c < 256 ∧ groupP c ws = ws
theorem cut_not_one {c : Nat} {ws : List Pw} (hw : wfW ws) (ha : altW ws) (hne : groupP c ws ≠ []) : ¬ OneG (cutP (commonP (groupP c ws)).size (groupP c ws)) := by
 rintro ⟨d, hd, h⟩
 have hall : ∀ x ∈ groupP c ws, (symS (cutOne (commonP (groupP c ws)).size x).2).head? = some d ∧ ∃ p r, (cutOne (commonP (groupP c ws)).size x).2 = p :: r ∧ p.1 = 0 := fun x hx => by
  have hm : cutOne (commonP (groupP c ws)).size x ∈ groupP d (cutP (commonP (groupP c ws)).size (groupP c ws)) := by
   rw [h]
   exact List.mem_map_of_mem hx
  obtain ⟨p, r, e, h0, t, ht⟩ := group_first (hw.group.cut) hm
  exact ⟨by rw [e, sym_text h0, ht]; rfl, p, r, e, h0⟩
 have hsym : ∀ x ∈ groupP c ws, ∃ p r, x.2 = p :: r ∧ p.1 = 0 ∧ txt x = p.2 ∧ symS x.2 = bl (commonP (groupP c ws)) ++ symS (cutOne (commonP (groupP c ws)).size x).2 ∧ symS x.2 = bl p.2 ++ symS r := fun x hx => by
  obtain ⟨p, r, e, h0, _⟩ := group_first hw hx
  exact ⟨p, r, e, h0, by unfold txt; rw [e], sym_cut e h0 (common_pre hx), by rw [e]; exact sym_text h0 r⟩
 have next : ∀ x ∈ groupP c ws, ∀ a, bl (commonP (groupP c ws)) ++ [a] <+: bl (txt x) → a = d := fun x hx a hp => by
  obtain ⟨p, r, e, h0, ht, hs1, hs2⟩ := hsym x hx
  rw [ht] at hp
  have h1 : bl (commonP (groupP c ws)) ++ [a] <+: symS x.2 := by rw [hs2]; exact hp.trans (List.prefix_append _ _)
  rw [hs1] at h1
  have h2 := (List.prefix_append_right_inj _).1 h1
  have h3 := head_pre h2 (c := a) rfl
  rw [(hall x hx).1] at h3
  exact (Option.some.inj h3).symm
 rcases common_max hne with ⟨x, hx, h1⟩ | ⟨a, b, hab, ⟨x, hx, h1⟩, y, hy, h2⟩
 ·obtain ⟨p, r, e, h0, ht, hs1, hs2⟩ := hsym x hx
  rw [← ht, h1, hs1] at hs2
  have h3 := List.append_cancel_left hs2
  have h4 := (hall x hx).1
  rw [h3] at h4
  have hal := ha x (group_mem hx).1
  rw [e] at hal
  cases r with
  | nil => cases h4
  | cons q r =>
   have hq := hal.1 h0
   have hk := (hw x (group_mem hx).1).2 q (by rw [e]; simp)
   obtain ⟨e', t', hd', hsq⟩ := big_head r (q := q) (by omega)
   rw [hsq] at h4
   have := Option.some.inj h4
   omega
 ·exact hab ((next x hx a h1).trans (next y hy b h2).symm)
theorem build_bound : ∀ (n : Nat) (ws : List Pw), meas ws < n → wfW ws → altW ws → ws ≠ [] → cntT (buildP n ws) ≤ sumF ws ∧ (¬ OneG ws → cntT (buildP n ws) + 1 ≤ sumF ws)
 | 0, ws, h, _, _, _ => absurd h (Nat.not_lt_zero _)
 | n + 1, ws, h, hw, ha, hws => by
  have hk := kids_bound hw (B := buildP n) (fun c hc hne => by
   have h1 : ∀ x ∈ groupP c ws, x.2 ≠ [] ∧ (commonP (groupP c ws)).size ≤ (txt x).size := fun x hx => by
    obtain ⟨_, p, r, e, _⟩ := group_mem hx
    exact ⟨by rw [e]; simp, common_all hx⟩
   have h2 := cut_meas h1 (common_pos hw hne)
   have h3 := group_meas c ws
   have h4 : 0 < (groupP c ws).length := List.length_pos_iff.2 hne
   have h5 : ∀ x ∈ groupP c ws, ∃ p r, x.2 = p :: r ∧ p.1 = 0 := fun x hx => by obtain ⟨p, r, e, h0, _⟩ := group_first hw hx; exact ⟨p, r, e, h0⟩
   have h6 := (build_bound n (cutP (commonP (groupP c ws)).size (groupP c ws)) (by omega) hw.group.cut (ha.group.cut h5) (by
    intro e
    unfold cutP at e
    exact hne (List.map_eq_nil_iff.1 e))).2 (cut_not_one hw ha hne)
   rw [cut_sum h5] at h6
   exact h6) 256 (Nat.le_refl _)
  have hed : ∀ k, k = 1 ∨ k = 2 → (edgeP k ws = [] ∧ cntT (edgeT (buildP n) (edgeP k ws)) = 0) ∨ (cntT (edgeT (buildP n) (edgeP k ws)) + 2 ≤ sumF (ws.filter (isK k))) := fun k hk => by
   unfold edgeT
   by_cases hne : edgeP k ws = []
   ·rw [if_pos hne]; exact .inl ⟨hne, rfl⟩
   ·rw [if_neg hne]
    refine .inr ?_
    have h1 := edge_meas k ws
    have h4 : 0 < (edgeP k ws).length := List.length_pos_iff.2 hne
    have h5 := (build_bound n _ (by omega) hw.edge ha.edge hne).1
    have h6 := edge_sum hk ws
    omega
  have h1 := hed 1 (.inl rfl)
  have h2 := hed 2 (.inr rfl)
  have e : cntT (buildP (n + 1) ws) = 1 + cntT (edgeT (buildP n) (edgeP 1 ws)) + cntT (edgeT (buildP n) (edgeP 2 ws)) + cntT (chain (kidsL (buildP n) ws 256)) := rfl
  -- the ways, by their first steps
  have p1 := sumF_split (isK 1) (isK 2) (fun x => isK 1 x || isK 2 x) ws (fun _ _ => rfl) (fun x hx => by
   unfold isK
   cases x.2 with
   | nil => rintro ⟨h, _⟩; cases h
   | cons p r => dsimp only; rintro ⟨h1, h2⟩; simp at h1 h2; omega)
  have p2 := sumF_split (fun x => isK 1 x || isK 2 x) (isGk 256) (fun x => !isE x) ws (fun x hx => by
   have hk := (hw x hx).2
   unfold isK isGk isE
   cases e : x.2 with
   | nil => rfl
   | cons p r =>
    have hk := hk p (by rw [e]; exact List.mem_cons_self ..)
    dsimp only
    have hb := bt_lt p.2 0
    rcases hk with h | h | h
    ·rw [h]
     have : bt p.2 0 < ((256 : Nat) : Int) := hb
     rw [decide_eq_true this]
     rfl
    ·rw [h]; rfl
    ·rw [h]; rfl) (fun x hx => by
   unfold isK isGk
   cases x.2 with
   | nil => rintro ⟨h, _⟩; cases h
   | cons p r => dsimp only; rintro ⟨h1, h2⟩; simp at h1 h2; omega)
  have p3 := sumF_split isE (fun x => !isE x) (fun _ => true) ws (fun x _ => by cases isE x <;> rfl) (fun x _ => by cases isE x <;> simp)
  have p4 : ws.filter (fun _ => true) = ws := List.filter_eq_self.2 fun _ _ => rfl
  rw [p4] at p3
  -- every way ends, or has an edge, or lies in a group
  have hall : ∀ x ∈ ws, isE x = true ∨ isK 1 x = true ∨ isK 2 x = true ∨ ∃ c, c < 256 ∧ x ∈ groupP c ws := fun x hx => by
   obtain ⟨w1, w2⟩ := hw x hx
   unfold isE isK
   cases e2 : x.2 with
   | nil => exact .inl rfl
   | cons p r =>
    rcases w2 p (by rw [e2]; exact List.mem_cons_self ..) with h1 | h1 | h1
    ·obtain ⟨c, _, g2, g3⟩ := head_text e2 h1 (w1 p (by rw [e2]; exact List.mem_cons_self ..) h1)
     refine .inr (.inr (.inr ⟨c, g3, ?_⟩))
     rw [groupP_filter hw]
     refine List.mem_filter.2 ⟨hx, ?_⟩
     unfold isG
     rw [e2]
     dsimp only
     rw [decide_eq_true h1, decide_eq_true g2]
     rfl
    ·exact .inr (.inl (by simp [h1]))
    ·exact .inr (.inr (.inl (by simp [h1])))
  rw [e]
  have q0 : ws.filter isE = [] ∨ 2 ≤ sumF (ws.filter isE) := by
   by_cases h : ws.filter isE = []
   ·exact .inl h
   ·exact .inr (sumF_pos h)
  rcases h1 with ⟨n1, z1⟩ | h1
  ·rcases h2 with ⟨n2, z2⟩ | h2
   ·by_cases hj : nGrp ws 256 = 0
    ·have hz := nGrp_zero hj
     have hE : ws.filter isE ≠ [] := by
      obtain ⟨x, hx⟩ := List.exists_mem_of_ne_nil _ hws
      rcases hall x hx with h | h | h | ⟨c, hc, h⟩
      ·exact List.ne_nil_of_mem (List.mem_filter.2 ⟨hx, h⟩)
      ·have : behindP x ∈ edgeP 1 ws := by rw [edgeP_map]; exact List.mem_map_of_mem (List.mem_filter.2 ⟨hx, h⟩)
       rw [n1] at this; cases this
      ·have : behindP x ∈ edgeP 2 ws := by rw [edgeP_map]; exact List.mem_map_of_mem (List.mem_filter.2 ⟨hx, h⟩)
       rw [n2] at this; cases this
      ·rw [hz c hc] at h; cases h
     have := sumF_pos hE
     have hc0 : cntT (chain (kidsL (buildP n) ws 256)) = 0 := by
      have hk0 : ∀ k, k ≤ 256 → kidsL (buildP n) ws k = [] := fun k => by
       induction k with
       | zero => intro _; rfl
       | succ k ih =>
        intro hk
        show kidsL (buildP n) ws k ++ kidOne (buildP n) (groupP k ws) = []
        rw [ih (by omega), hz k (by omega)]
        rfl
      rw [hk0 256 (Nat.le_refl _)]
      rfl
     exact ⟨by omega, fun _ => by omega⟩
    ·refine ⟨by omega, fun hno => ?_⟩
     by_cases hj1 : nGrp ws 256 = 1
     ·rcases q0 with q0 | q0
      ·exfalso
       have hone := nGrp_one (ws := ws) (k := 256) (by omega)
       have hin : ∀ x ∈ ws, ∃ c, c < 256 ∧ x ∈ groupP c ws := fun x hx => by
        rcases hall x hx with h | h | h | h
        ·have : x ∈ ws.filter isE := List.mem_filter.2 ⟨hx, h⟩
         rw [q0] at this; cases this
        ·have : behindP x ∈ edgeP 1 ws := by rw [edgeP_map]; exact List.mem_map_of_mem (List.mem_filter.2 ⟨hx, h⟩)
         rw [n1] at this; cases this
        ·have : behindP x ∈ edgeP 2 ws := by rw [edgeP_map]; exact List.mem_map_of_mem (List.mem_filter.2 ⟨hx, h⟩)
         rw [n2] at this; cases this
        ·exact h
       obtain ⟨x, hx⟩ := List.exists_mem_of_ne_nil _ hws
       obtain ⟨c, hc, hxc⟩ := hin x hx
       refine hno ⟨c, hc, ?_⟩
       rw [groupP_filter hw]
       refine List.filter_eq_self.2 fun y hy => ?_
       obtain ⟨d, hd, hyd⟩ := hin y hy
       obtain rfl : c = d := hone c d hc hd (List.ne_nil_of_mem hxc) (List.ne_nil_of_mem hyd)
       rw [groupP_filter hw] at hyd
       exact (List.mem_filter.1 hyd).2
      ·omega
     ·omega
   ·exact ⟨by omega, fun _ => by omega⟩
  ·rcases h2 with ⟨n2, z2⟩ | h2
   ·exact ⟨by omega, fun _ => by omega⟩
   ·exact ⟨by omega, fun _ => by omega⟩
theorem edgN_append (a b : List Pc) : edgN (a ++ b) = edgN a + edgN b := by unfold edgN; rw [List.countP_append]
theorem stepsGo_edg (l : List Pc) : ∀ (k : Nat) (t : ByteArray) (out : List Pc), (k = 0 → t.size = 0) → edgN (stepsGo l k t out) = edgN out + edgN l := by
 induction l with
 | nil =>
  intro k t out _
  by_cases ht : t.size = 0
  ·rw [steps_end ht]; rfl
  ·rw [steps_end_text ht, edgN_append, edgN_cons, if_pos rfl]
   omega
 | cons p l ih =>
  intro k t out ht
  rw [edgN_cons]
  by_cases hp : p.1 = 0
  ·rw [if_pos hp]
   by_cases hk : k = 0
   ·rw [steps_first_text hp hk, ih _ _ _ (fun h => absurd h (Nat.succ_ne_zero _))]; omega
   ·rw [steps_text hp hk, ih _ _ _ (fun h => absurd h (Nat.succ_ne_zero _))]; omega
  ·rw [if_neg hp]
   by_cases hk : k = 0
   ·rw [steps_first_edge hp hk (ht hk), ih _ _ _ (fun h => absurd h (Nat.succ_ne_zero _)), edgN_append, edgN_cons, if_neg hp]
    show _ + (1 + 0) + _ = _
    omega
   ·rw [steps_edge hp hk, ih _ _ _ (fun h => absurd h (Nat.succ_ne_zero _)), edgN_append, edgN_append, edgN_cons, edgN_cons, if_neg hp, if_pos rfl]
    show _ + (0 + 0) + (1 + 0) + _ = _
    omega
theorem steps_edg (l : List Pc) : edgN (stepsP l) = edgN l := by
 unfold stepsP
 rw [stepsGo_edg l 0 _ [] (fun _ => rfl)]
 exact Nat.zero_add _
def edgL (ls : List (List Pc)) : Nat := (ls.map edgN).sum
theorem ways_sum (ls : List (List Pc)) : ∀ k, sumF (waysGo k ls) = 2 * ls.length + 2 * edgL ls := by
 induction ls with
 | nil => intro k; rfl
 | cons l ls ih =>
  intro k
  have e : waysGo k (l :: ls) = (k, stepsP l) :: waysGo (k + 1) ls := rfl
  rw [e, sumF_cons, ih]
  unfold wayF edgL
  dsimp only
  rw [steps_edg, List.map_cons, List.sum_cons, List.length_cons]
  omega
theorem cnt_one (n : Nat) : cntT (buildP (n + 1) []) = 1 := by
 have hk : ∀ k, kidsL (buildP n) [] k = [] := fun k => by
  induction k with
  | zero => rfl
  | succ k ih =>
   show kidsL (buildP n) [] k ++ kidOne (buildP n) (groupP k []) = []
   rw [ih]
   rfl
 show 1 + cntT (edgeT (buildP n) []) + cntT (edgeT (buildP n) []) + cntT (chain (kidsL (buildP n) [] 256)) = 1
 rw [hk]
 rfl
theorem tree_bound (ls : List (List Pc)) (h : ∀ l ∈ ls, ∀ p ∈ l, p.1 = 0 ∨ p.1 = 1 ∨ p.1 = 2) : cntT (buildP (meas (waysP ls) + 1) (waysP ls)) ≤ 2 * ls.length + 2 * edgL ls + 1 := by
 by_cases e : waysP ls = []
 ·rw [e, cnt_one]
  omega
 ·have h1 := (build_bound (meas (waysP ls) + 1) (waysP ls) (Nat.lt_succ_self _) (ways_wf h) (ways_alt ls) e).1
  have h2 := ways_sum ls 0
  unfold waysP at h1 ⊢
  omega
end Go.Proofs.YtiohmnhbmmhnhaaGreatDoor
namespace Go.Proofs.YtiohmnhbmmhnhaaGreatDoor
def comN : List Nat → List Nat → Nat
 | a :: x, b :: y => if a = b then comN x y + 1 else 0
 | _, _ => 0
theorem comN_le_r : ∀ x y : List Nat, comN x y ≤ y.length
 | [], _ => Nat.zero_le _
 | _ :: _, [] => Nat.zero_le _
 | a :: x, b :: y => by
  unfold comN
  split
  ·have := comN_le_r x y
   rw [List.length_cons]
   omega
  ·exact Nat.zero_le _
theorem comN_pre : ∀ (x y : List Nat) (n : Nat), n ≤ x.length → (n ≤ comN x y ↔ x.take n <+: y)
 | _, _, 0, _ => by simp
 | [], y, n + 1, h => by simp at h
 | a :: x, [], n + 1, _ => by
  unfold comN
  simp
 | a :: x, b :: y, n + 1, h => by
  unfold comN
  rw [List.take_succ_cons, List.cons_prefix_cons]
  by_cases e : a = b
  ·rw [if_pos e, ← comN_pre x y n (by simpa using h)]
   constructor
   ·intro h; exact ⟨e, by omega⟩
   ·rintro ⟨_, h⟩; omega
  ·rw [if_neg e]
   constructor
   ·intro h; omega
   ·rintro ⟨h, _⟩; exact absurd h e
theorem comN_eq {x y : List Nat} {k : Nat} (h1 : k ≤ x.length) (h2 : k ≤ y.length) (h3 : ∀ j, j < k → x[j]? = y[j]?) (h4 : k = x.length ∨ k = y.length ∨ x[k]? ≠ y[k]?) : comN x y = k := by
 induction k generalizing x y with
 | zero =>
  cases x with
  | nil => rfl
  | cons a x =>
   cases y with
   | nil => rfl
   | cons b y =>
    unfold comN
    rw [if_neg]
    intro e
    rcases h4 with h | h | h
    ·simp at h
    ·simp at h
    ·simp [e] at h
 | succ k ih =>
  cases x with
  | nil => simp at h1
  | cons a x =>
   cases y with
   | nil => simp at h2
   | cons b y =>
    have e : a = b := by simpa using h3 0 (Nat.succ_pos _)
    unfold comN
    rw [if_pos e, ih (by simpa using h1) (by simpa using h2) (fun j hj => by simpa using h3 (j + 1) (by omega)) (by simpa using h4)]
def isN (rows : List (List Nat)) (i n : Nat) : Bool := match rows[i]? with
 | none => false
 | some x => decide (n = x.length) || (decide (1000 ≤ x.getD (n - 1) 0) || (decide (1000 ≤ x.getD n 0) ||
   (List.range rows.length).any fun j => decide (comN x (rows.getD j []) = n) && (decide ((rows.getD j []).length = n) || !decide (j = i))))
def firstN (rows : List (List Nat)) (i n : Nat) : Bool := (List.range i).all fun j => decide (comN (rows.getD i []) (rows.getD j []) < n)
def hitB (rows : List (List Nat)) (i n : Nat) : Bool := decide (2 ≤ n) && (isN rows i n && firstN rows i n)
def cntN (rows : List (List Nat)) (i : Nat) : Nat → Nat
 | 0 => 0
 | n + 1 => cntN rows i n + if hitB rows i n = true then 1 else 0
def totN (rows : List (List Nat)) : Nat → Nat
 | 0 => 1
 | i + 1 => totN rows i + cntN rows i ((rows.getD i []).length + 1)
def nodesR (rows : List (List Nat)) : Nat := totN rows rows.length
def begs (rows : List (List Nat)) (i : Nat) : List (List Nat) := ((List.range ((rows.getD i []).length + 1)).filter (hitB rows i)).map fun n => (rows.getD i []).take n
def begsTo (rows : List (List Nat)) : Nat → List (List Nat)
 | 0 => []
 | i + 1 => begsTo rows i ++ begs rows i
theorem cntN_len (rows : List (List Nat)) (i : Nat) : ∀ n, cntN rows i n = ((List.range n).filter (hitB rows i)).length
 | 0 => rfl
 | n + 1 => by
  unfold cntN
  rw [List.range_succ, List.filter_append, List.length_append, cntN_len rows i n]
  congr 1
  by_cases h : hitB rows i n = true
  ·rw [if_pos h, List.filter_cons_of_pos h]; rfl
  ·rw [if_neg h, List.filter_cons_of_neg h]; rfl
theorem totN_len (rows : List (List Nat)) : ∀ i, totN rows i = 1 + (begsTo rows i).length
 | 0 => rfl
 | i + 1 => by
  unfold totN begsTo
  rw [List.length_append, totN_len rows i, cntN_len]
  unfold begs
  rw [List.length_map]
  omega
theorem nodup_len {α : Type} [DecidableEq α] : ∀ (a b : List α), a.Nodup → (∀ x ∈ a, x ∈ b) → a.length ≤ b.length
 | [], _, _, _ => Nat.zero_le _
 | x :: a, b, hn, h => by
  have hx := h x (List.mem_cons_self ..)
  obtain ⟨h1, h2⟩ := List.nodup_cons.1 hn
  have ih := nodup_len a (b.erase x) h2 fun y hy => by
   have hne : y ≠ x := fun e => h1 (e ▸ hy)
   exact (List.mem_erase_of_ne hne).2 (h y (List.mem_cons_of_mem _ hy))
  rw [List.length_erase_of_mem hx] at ih
  have := List.length_pos_of_mem hx
  rw [List.length_cons]
  omega
theorem getD_some {α : Type} {l : List α} {i : Nat} {x d : α} (h : l[i]? = some x) : l.getD i d = x := by rw [List.getD_eq_getElem?_getD, h]; rfl
theorem len_take {x : List Nat} {n : Nat} (h : n ≤ x.length) : (x.take n).length = n := by rw [List.length_take]; omega
theorem isN_node {rows : List (List Nat)} {i n : Nat} {x : List Nat} (hx : rows[i]? = some x) (h1 : 1 ≤ n) (hn : n ≤ x.length) (hf : firstN rows i n = true) : isN rows i n = true ↔ NodeP rows (x.take n) := by
 have hmem := List.mem_of_getElem? hx
 have hlen := len_take hn
 have hne : x.take n ≠ [] := fun e => by rw [e] at hlen; simp at hlen; omega
 have hsplit : n < x.length → x = x.take n ++ (x.getD n 0) :: x.drop (n + 1) := fun h => by
  rw [List.getD_eq_getElem?_getD, List.getElem?_eq_getElem h]
  show x = x.take n ++ x[n] :: x.drop (n + 1)
  rw [← List.drop_eq_getElem_cons h, List.take_append_drop]
 have hlast : x.take n = x.take (n - 1) ++ [x.getD (n - 1) 0] := by
  have h : n - 1 < x.length := by omega
  rw [List.getD_eq_getElem?_getD, List.getElem?_eq_getElem h]
  show x.take n = x.take (n - 1) ++ [x[n - 1]]
  rw [← List.take_succ_eq_append_getElem h]
  congr 1
  omega
 have e : isN rows i n = (decide (n = x.length) || (decide (1000 ≤ x.getD (n - 1) 0) || (decide (1000 ≤ x.getD n 0) ||
   (List.range rows.length).any fun j => decide (comN x (rows.getD j []) = n) && (decide ((rows.getD j []).length = n) || !decide (j = i))))) := by
  unfold isN
  rw [hx]
 rw [e]
 constructor
 ·intro h
  refine ⟨hne, ⟨x, hmem, List.take_prefix _ _⟩, ?_⟩
  rw [Bool.or_eq_true, Bool.or_eq_true, Bool.or_eq_true, decide_eq_true_iff, decide_eq_true_iff, decide_eq_true_iff] at h
  rcases h with h | h | h | h
  ·exact .inl (by rw [h, List.take_length]; exact hmem)
  ·exact .inr (.inl ⟨_, _, h, hlast⟩)
  ·by_cases hl : n < x.length
   ·exact .inr (.inr (.inl ⟨_, h, x, hmem, ⟨x.drop (n + 1), by rw [List.append_assoc]; exact (hsplit hl).symm⟩⟩))
   ·rw [List.getD_eq_getElem?_getD, List.getElem?_eq_none (by omega)] at h
    simp at h
  ·obtain ⟨j, hj, h⟩ := List.any_eq_true.1 h
   rw [Bool.and_eq_true, decide_eq_true_iff, Bool.or_eq_true, decide_eq_true_iff, Bool.not_eq_true', decide_eq_false_iff_not] at h
   obtain ⟨hc, h⟩ := h
   have hjl : j < rows.length := List.mem_range.1 hj
   obtain ⟨y, hy⟩ : ∃ y, rows[j]? = some y := ⟨_, List.getElem?_eq_getElem hjl⟩
   rw [getD_some hy] at hc h
   have hym := List.mem_of_getElem? hy
   have hp : x.take n <+: y := (comN_pre x y n hn).1 (by omega)
   have hyn := comN_le_r x y
   by_cases hyl : y.length = n
   ·refine .inl ?_
    have e2 : x.take n = y := hp.eq_of_length (by rw [hlen]; exact hyl.symm)
    rw [e2]
    exact hym
   ·rcases Nat.lt_or_ge n x.length with hl | hl
    ·-- both go on, otherwise
     obtain ⟨t, ht⟩ := hp
     cases t with
     | nil => rw [List.append_nil] at ht; rw [← ht] at hyl; exact absurd hlen hyl
     | cons d t =>
      refine .inr (.inr (.inr ⟨x.getD n 0, d, fun ed => ?_, ⟨x, hmem, ⟨x.drop (n + 1), by rw [List.append_assoc]; exact (hsplit hl).symm⟩⟩, y, hym, ⟨t, by rw [List.append_assoc]; exact ht⟩⟩))
      have h2 : n + 1 ≤ comN x y := (comN_pre x y (n + 1) (by omega)).2 (by
       have e3 : x.take (n + 1) = x.take n ++ [x.getD n 0] := by
        rw [List.getD_eq_getElem?_getD, List.getElem?_eq_getElem hl]
        exact List.take_succ_eq_append_getElem hl
       rw [e3, ed]
       exact ⟨t, by rw [List.append_assoc]; exact ht⟩)
      omega
    ·have : n = x.length := by omega
     exact .inl (by rw [this, List.take_length]; exact hmem)
 ·rintro ⟨_, _, h⟩
  rw [Bool.or_eq_true, Bool.or_eq_true, Bool.or_eq_true, decide_eq_true_iff, decide_eq_true_iff, decide_eq_true_iff]
  by_cases hl : n = x.length
  ·exact .inl hl
  have hl : n < x.length := by omega
  -- another row that goes on otherwise
  have apart : ∀ y ∈ rows, ∀ d, x.take n ++ [d] <+: y → d ≠ x.getD n 0 → (List.range rows.length).any (fun j => decide (comN x (rows.getD j []) = n) && (decide ((rows.getD j []).length = n) || !decide (j = i))) = true := fun y hy d hp hd => by
   obtain ⟨j, hj, hyj⟩ := List.getElem_of_mem hy
   have hyj' : rows[j]? = some y := by rw [List.getElem?_eq_getElem hj, hyj]
   refine List.any_eq_true.2 ⟨j, List.mem_range.2 hj, ?_⟩
   rw [getD_some hyj']
   have c1 : n ≤ comN x y := (comN_pre x y n hn).2 ((List.prefix_append _ _).trans hp)
   have c2 : ¬ n + 1 ≤ comN x y := fun hc => by
    have h2 := (comN_pre x y (n + 1) (by omega)).1 hc
    have e3 : x.take (n + 1) = x.take n ++ [x.getD n 0] := by
     rw [List.getD_eq_getElem?_getD, List.getElem?_eq_getElem hl]
     exact List.take_succ_eq_append_getElem hl
    rw [e3] at h2
    have h3 := List.prefix_of_prefix_length_le h2 hp (by simp)
    have h4 := (List.prefix_append_right_inj _).1 h3
    exact hd (List.cons_prefix_cons.1 h4).1.symm
   have hji : j ≠ i := by
    rintro rfl
    rw [hx] at hyj'
    obtain rfl := Option.some.inj hyj'
    have h3 : x.take n ++ [d] <+: x.take n ++ (x.getD n 0 :: x.drop (n + 1)) := by rw [← hsplit hl]; exact hp
    have h4 := (List.prefix_append_right_inj _).1 h3
    exact hd (List.cons_prefix_cons.1 h4).1
   rw [Bool.and_eq_true, decide_eq_true_iff, Bool.or_eq_true, Bool.not_eq_true', decide_eq_false_iff_not]
   exact ⟨by omega, .inr hji⟩
  refine .inr ?_
  rcases h with h | ⟨q, c, hc, h⟩ | ⟨c, hc, y, hy, h⟩ | ⟨c, d, hcd, ⟨y, hy, g1⟩, z, hz, g2⟩
  ·obtain ⟨j, hj, hyj⟩ := List.getElem_of_mem h
   have hyj' : rows[j]? = some (x.take n) := by rw [List.getElem?_eq_getElem hj, hyj]
   refine .inr (.inr (List.any_eq_true.2 ⟨j, List.mem_range.2 hj, ?_⟩))
   rw [getD_some hyj', hlen]
   have c1 : n ≤ comN x (x.take n) := (comN_pre x _ n hn).2 (List.prefix_refl _)
   have c2 := comN_le_r x (x.take n)
   rw [hlen] at c2
   rw [Bool.and_eq_true, decide_eq_true_iff]
   exact ⟨by omega, by simp⟩
  ·refine .inl ?_
   rw [hlast] at h
   have := (List.append_inj' h rfl).2
   have := (List.cons.inj this).1
   omega
  ·by_cases hd : c = x.getD n 0
   ·exact .inr (.inl (by omega))
   ·exact .inr (.inr (apart y hy c h hd))
  ·by_cases hd : c = x.getD n 0
   ·exact .inr (.inr (apart z hz d g2 (fun e => hcd (hd.trans e.symm))))
   ·exact .inr (.inr (apart y hy c g1 hd))
theorem firstN_iff {rows : List (List Nat)} {i n : Nat} {x : List Nat} (hx : rows[i]? = some x) (hn : n ≤ x.length) : firstN rows i n = true ↔ ∀ j y, j < i → rows[j]? = some y → ¬ x.take n <+: y := by
 unfold firstN
 rw [List.all_eq_true, getD_some hx]
 constructor
 ·intro h j y hj hy hp
  have := h j (List.mem_range.2 hj)
  rw [getD_some hy, decide_eq_true_iff] at this
  have h2 := (comN_pre x y n hn).2 hp
  omega
 ·intro h j hj
  have hil := (List.getElem?_eq_some_iff.1 hx).1
  have hj := List.mem_range.1 hj
  obtain ⟨y, hy⟩ : ∃ y, rows[j]? = some y := ⟨_, List.getElem?_eq_getElem (by omega)⟩
  rw [getD_some hy, decide_eq_true_iff]
  have := h j y hj hy
  rw [← comN_pre x y n hn] at this
  omega
theorem begs_mem {rows : List (List Nat)} {i : Nat} {x : List Nat} (hx : rows[i]? = some x) (p : List Nat) : p ∈ begs rows i ↔ ∃ n, 2 ≤ n ∧ n ≤ x.length ∧ p = x.take n ∧ NodeP rows p ∧ ∀ j y, j < i → rows[j]? = some y → ¬ p <+: y := by
 unfold begs
 rw [List.mem_map, getD_some hx]
 constructor
 ·rintro ⟨n, hn, rfl⟩
  obtain ⟨h1, h2⟩ := List.mem_filter.1 hn
  have h1 := List.mem_range.1 h1
  unfold hitB at h2
  rw [Bool.and_eq_true, Bool.and_eq_true, decide_eq_true_iff] at h2
  exact ⟨n, h2.1, by omega, rfl, (isN_node hx (by omega) (by omega) h2.2.2).1 h2.2.1, (firstN_iff hx (by omega)).1 h2.2.2⟩
 ·rintro ⟨n, h1, h2, rfl, h3, h4⟩
  have hf := (firstN_iff hx h2).2 h4
  refine ⟨n, List.mem_filter.2 ⟨List.mem_range.2 (by omega), ?_⟩, rfl⟩
  unfold hitB
  rw [Bool.and_eq_true, Bool.and_eq_true, decide_eq_true_iff]
  exact ⟨h1, (isN_node hx (by omega) h2 hf).2 h3, hf⟩
theorem begs_nodup {rows : List (List Nat)} {i : Nat} {x : List Nat} (hx : rows[i]? = some x) : (begs rows i).Nodup := by
 unfold begs
 rw [getD_some hx]
 refine List.pairwise_map.2 ?_
 refine (List.Pairwise.filter _ List.nodup_range).imp_of_mem fun {a b} ha hb hab e => hab ?_
 have ha := List.mem_range.1 (List.mem_filter.1 ha).1
 have hb := List.mem_range.1 (List.mem_filter.1 hb).1
 have := congrArg List.length e
 rw [len_take (by omega), len_take (by omega)] at this
 exact this
theorem begsTo_spec (rows : List (List Nat)) : ∀ i, i ≤ rows.length → (∀ p, p ∈ begsTo rows i ↔ 2 ≤ p.length ∧ NodeP rows p ∧ ∃ j y, j < i ∧ rows[j]? = some y ∧ p <+: y) ∧ (begsTo rows i).Nodup
 | 0, _ => ⟨fun p => ⟨fun h => (by cases h), fun ⟨_, _, j, _, h, _⟩ => absurd h (Nat.not_lt_zero _)⟩, List.nodup_nil⟩
 | i + 1, hi => by
  obtain ⟨ih1, ih2⟩ := begsTo_spec rows i (by omega)
  obtain ⟨x, hx⟩ : ∃ x, rows[i]? = some x := ⟨_, List.getElem?_eq_getElem (by omega)⟩
  have hm := begs_mem hx
  unfold begsTo
  constructor
  ·intro p
   rw [List.mem_append, ih1, hm]
   constructor
   ·rintro (⟨h1, h2, j, y, hj, hy, hp⟩ | ⟨n, h1, h2, rfl, h3, _⟩)
    ·exact ⟨h1, h2, j, y, by omega, hy, hp⟩
    ·exact ⟨by rw [len_take h2]; exact h1, h3, i, x, by omega, hx, List.take_prefix _ _⟩
   ·rintro ⟨h1, h2, j, y, hj, hy, hp⟩
    by_cases he : ∃ j y, j < i ∧ rows[j]? = some y ∧ p <+: y
    ·exact .inl ⟨h1, h2, he⟩
    ·have hji : j = i := by
      rcases Nat.lt_or_ge j i with h | h
      ·exact absurd ⟨j, y, h, hy, hp⟩ he
      ·omega
     subst hji
     rw [hx] at hy
     obtain rfl := Option.some.inj hy
     have hpl := hp.length_le
     have ep : p = x.take p.length := List.prefix_iff_eq_take.1 hp
     exact .inr ⟨p.length, h1, hpl, ep, h2, fun j y hj hy hpy => he ⟨j, y, hj, hy, hpy⟩⟩
  ·rw [List.nodup_append]
   refine ⟨ih2, begs_nodup hx, ?_⟩
   rintro a ha b hb rfl
   obtain ⟨_, _, j, y, hj, hy, hp⟩ := (ih1 a).1 ha
   obtain ⟨_, _, _, _, _, h⟩ := (hm a).1 hb
   exact h j y hj hy hp
def rowP (l : List Pc) : List Nat := symTail l
theorem rowP_pat {l : List Pc} (h : l ≠ []) : rowP l = 47 :: symPat l := by
 cases l with
 | nil => exact absurd rfl h
 | cons p l => rfl
theorem node_slash {W : List (List Nat)} {p : List Nat} (hp : p ≠ []) : NodeP (W.map (47 :: ·)) (47 :: p) ↔ NodeP W p := by
 have hm : ∀ y, 47 :: y ∈ W.map (47 :: ·) ↔ y ∈ W := fun y => by
  rw [List.mem_map]
  constructor
  ·rintro ⟨z, hz, e⟩
   obtain rfl := (List.cons.inj e).2
   exact hz
  ·intro h; exact ⟨y, h, rfl⟩
 have hex : ∀ q, (∃ x ∈ W.map (47 :: ·), 47 :: q <+: x) ↔ ∃ x ∈ W, q <+: x := fun q => by
  constructor
  ·rintro ⟨x, hx, h⟩
   obtain ⟨y, hy, rfl⟩ := List.mem_map.1 hx
   exact ⟨y, hy, (List.cons_prefix_cons.1 h).2⟩
  ·rintro ⟨y, hy, h⟩
   exact ⟨47 :: y, (hm y).2 hy, List.cons_prefix_cons.2 ⟨rfl, h⟩⟩
 unfold NodeP
 simp only [List.cons_append, hm, hex]
 constructor
 ·rintro ⟨_, h1, h2⟩
  refine ⟨hp, h1, ?_⟩
  rcases h2 with h | ⟨q, c, hc, h⟩ | h | h
  ·exact .inl h
  ·refine .inr (.inl ?_)
   cases q with
   | nil =>
    have := (List.cons.inj h).2
    exact absurd this hp
   | cons a q => exact ⟨q, c, hc, (List.cons.inj h).2⟩
  ·exact .inr (.inr (.inl h))
  ·exact .inr (.inr (.inr h))
 ·rintro ⟨_, h1, h2⟩
  refine ⟨by simp, h1, ?_⟩
  rcases h2 with h | ⟨q, c, hc, rfl⟩ | h | h
  ·exact .inl h
  ·exact .inr (.inl ⟨47 :: q, c, hc, rfl⟩)
  ·exact .inr (.inr (.inl h))
  ·exact .inr (.inr (.inr h))
theorem nodes_ref (ls : List (List Pc)) (h : ∀ l ∈ ls, l ≠ [] ∧ ∀ p ∈ l, p.1 = 0 ∨ p.1 = 1 ∨ p.1 = 2) : nodesR (ls.map rowP) = cntT (buildP (meas (waysP ls) + 1) (waysP ls)) := by
 have hn := build_nodes (meas (waysP ls) + 1) (waysP ls) (Nat.lt_succ_self _) (ways_wf fun l hl => (h l hl).2) (ways_alt ls)
 have hs : ∀ y, y ∈ syms (waysP ls) ↔ y ∈ ls.map symPat := fun y => by
  rw [mem_syms, List.mem_map]
  constructor
  ·rintro ⟨x, hx, rfl⟩
   obtain ⟨l, hl, e, _⟩ := waysGo_mem hx
   exact ⟨l, hl, by rw [e, sym_steps (h l hl).2]⟩
  ·rintro ⟨l, hl, rfl⟩
   obtain ⟨k, hk, rfl⟩ := List.getElem_of_mem hl
   have key : ∀ (ls : List (List Pc)) (k n : Nat) (hk : k < ls.length), (n + k, stepsP ls[k]) ∈ waysGo n ls := fun ls => by
    induction ls with
    | nil => intro k n hk; simp at hk
    | cons a ls ih =>
     intro k n hk
     have e : waysGo n (a :: ls) = (n, stepsP a) :: waysGo (n + 1) ls := rfl
     rw [e]
     cases k with
     | zero => exact List.mem_cons_self ..
     | succ k =>
      have := ih k (n + 1) (by simpa using hk)
      rw [show n + (k + 1) = n + 1 + k by omega]
      exact List.mem_cons_of_mem _ this
   exact ⟨_, key ls k 0 hk, sym_steps (h _ hl).2⟩
 have hN : ∀ p, NodeP (syms (waysP ls)) p ↔ NodeP (ls.map symPat) p := fun p => by
  unfold NodeP
  simp only [hs]
 obtain ⟨p1, p2⟩ := hn
 have hrows : ls.map rowP = (ls.map symPat).map (47 :: ·) := by
  rw [List.map_map]
  exact List.map_congr_left fun l hl => rowP_pat (h l hl).1
 unfold nodesR
 rw [totN_len, ← paths_length]
 obtain ⟨b1, b2⟩ := begsTo_spec (ls.map rowP) _ (Nat.le_refl _)
 have key : ∀ p, p ∈ begsTo (ls.map rowP) (ls.map rowP).length ↔ ∃ q, p = 47 :: q ∧ q ∈ pathsT (buildP (meas (waysP ls) + 1) (waysP ls)) ∧ q ≠ [] := fun p => by
  rw [b1]
  constructor
  ·rintro ⟨h1, h2, j, y, _, hy, hp⟩
   rw [hrows] at h2 hy
   have hym := List.mem_of_getElem? hy
   obtain ⟨z, hz, rfl⟩ := List.mem_map.1 hym
   cases p with
   | nil => simp at h1
   | cons a q =>
    obtain ⟨rfl, hq⟩ := List.cons_prefix_cons.1 hp
    have hq0 : q ≠ [] := fun e => by rw [e] at h1; simp at h1
    exact ⟨q, rfl, (p1 q).2 (.inr ((hN q).2 ((node_slash hq0).1 h2))), hq0⟩
  ·rintro ⟨q, rfl, hq, hq0⟩
   have hnq : NodeP (ls.map symPat) q := (hN q).1 (((p1 q).1 hq).resolve_left hq0)
   have h2 : NodeP (ls.map rowP) (47 :: q) := by rw [hrows]; exact (node_slash hq0).2 hnq
   refine ⟨?_, h2, ?_⟩
   ·cases q with
    | nil => exact absurd rfl hq0
    | cons a q => simp
   ·obtain ⟨_, ⟨x, hx, hp⟩, _⟩ := h2
    obtain ⟨j, hj, e⟩ := List.getElem_of_mem hx
    exact ⟨j, x, hj, by rw [List.getElem?_eq_getElem hj, e], hp⟩
 have hdec : pathsT (buildP (meas (waysP ls) + 1) (waysP ls)) = [] :: (pathsT (buildP (meas (waysP ls) + 1) (waysP ls))).tail := rfl
 have hnd := p2
 rw [hdec] at hnd
 obtain ⟨t1, t2⟩ := List.nodup_cons.1 hnd
 have htm : ∀ q, q ∈ (pathsT (buildP (meas (waysP ls) + 1) (waysP ls))).tail ↔ q ∈ pathsT (buildP (meas (waysP ls) + 1) (waysP ls)) ∧ q ≠ [] := fun q => by
  constructor
  ·intro hq
   exact ⟨List.mem_of_mem_tail hq, fun e => t1 (e ▸ hq)⟩
  ·rintro ⟨hq, h0⟩
   rw [hdec] at hq
   exact (List.mem_cons.1 hq).resolve_left h0
 have l1 : (begsTo (ls.map rowP) (ls.map rowP).length).length ≤ ((pathsT (buildP (meas (waysP ls) + 1) (waysP ls))).tail.map (47 :: ·)).length := nodup_len _ _ b2 fun p hp => by
  obtain ⟨q, rfl, hq, h0⟩ := (key p).1 hp
  exact List.mem_map.2 ⟨q, (htm q).2 ⟨hq, h0⟩, rfl⟩
 have l2 : ((pathsT (buildP (meas (waysP ls) + 1) (waysP ls))).tail.map (47 :: ·)).length ≤ (begsTo (ls.map rowP) (ls.map rowP).length).length := nodup_len _ _ (List.Pairwise.map _ (fun a b hab e => hab (List.cons.inj e).2) t2) fun p hp => by
  obtain ⟨q, hq, rfl⟩ := List.mem_map.1 hp
  exact (key _).2 ⟨q, rfl, (htm q).1 hq⟩
 have l3 : (pathsT (buildP (meas (waysP ls) + 1) (waysP ls))).length = 1 + (pathsT (buildP (meas (waysP ls) + 1) (waysP ls))).tail.length := by
  conv => lhs; rw [hdec]
  rw [List.length_cons]
  omega
 simp only [List.length_map] at l1 l2 ⊢
 omega
end Go.Proofs.YtiohmnhbmmhnhaaGreatDoor
