/-
  What ways have in common, and what is cut off: plain words.
-/
import Derived.Test.YtkhgnfofinpofaaRxP
namespace Go.Proofs.Ytkhgnfofinpofaa

abbrev Pw := Nat × List Pc
/-- A way's first text. -/
def txt (x : Pw) : ByteArray := match x.2 with
  | [] => ⟨#[]⟩
  | p :: _ => p.2
def preB (s p : ByteArray) : Bool := Lib.hasPrefix s.data.toList p.data.toList
theorem preB_empty {y t : ByteArray} (h : t.size = 0) : preB y t = true := by
  unfold preB Lib.hasPrefix
  have : t.data.toList = [] := by
    apply List.eq_nil_of_length_eq_zero
    rw [size_eq]
    exact h
  rw [this]
  simp
def shrink (y : ByteArray) : Nat → ByteArray → ByteArray
  | 0, t => t
  | n + 1, t => if preB y t = true then t else shrink y n (t.extract 0 (t.size - 1))
def comOne (y t : ByteArray) : ByteArray := shrink y t.size t
theorem comOne_yes {y t : ByteArray} (h : preB y t = true) : comOne y t = t := by
  unfold comOne
  cases t.size with
  | zero => rfl
  | succ n => exact if_pos h
theorem comOne_no {y t : ByteArray} (h : preB y t = false) : 0 < t.size ∧ comOne y t = comOne y (t.extract 0 (t.size - 1)) := by
  have hp : 0 < t.size := by
    by_cases e : t.size = 0
    · rw [preB_empty e] at h; cases h
    · omega
  refine ⟨hp, ?_⟩
  have hz := ext_size t (a := 0) (b := t.size - 1) (by omega) (by omega)
  unfold comOne
  rw [hz]
  obtain ⟨n, hn⟩ : ∃ n, t.size = n + 1 := ⟨t.size - 1, by omega⟩
  conv => lhs; rw [hn]; unfold shrink
  rw [if_neg (by rw [h]; simp), show t.size - 1 - 0 = n by omega]
theorem comOne_spec (y : ByteArray) : ∀ (n : Nat) (t : ByteArray), t.size ≤ n → (comOne y t).size ≤ t.size ∧ preB y (comOne y t) = true
  | n, t, hn => by
    cases h : preB y t
    · obtain ⟨h0, h1⟩ := comOne_no h
      have hz := ext_size t (a := 0) (b := t.size - 1) (by omega) (by omega)
      match n, hn with
      | 0, hn => omega
      | n + 1, hn =>
        obtain ⟨a, b⟩ := comOne_spec y n (t.extract 0 (t.size - 1)) (by omega)
        rw [h1]
        exact ⟨by omega, b⟩
    · rw [comOne_yes h]
      exact ⟨Nat.le_refl _, h⟩
theorem preB_size {y t : ByteArray} (h : preB y t = true) : t.size ≤ y.size := by
  unfold preB Lib.hasPrefix at h
  have h1 := (List.isPrefixOf_iff_prefix.1 h).length_le
  rw [size_eq, size_eq] at h1
  exact h1
def commonP (l : List Pw) : ByteArray := match l with
  | [] => ⟨#[]⟩
  | x :: l => (x :: l).foldl (fun t x => comOne (txt x) t) (txt x)
def cutOne (n : Nat) (x : Pw) : Pw := (x.1, if ((txt x).extract n (txt x).size).size = 0 then x.2.tail else (0, (txt x).extract n (txt x).size) :: x.2.tail)
def cutP (n : Nat) (l : List Pw) : List Pw := l.map (cutOne n)
theorem foldl_le (l : List Pw) : ∀ (t : ByteArray), (l.foldl (fun t x => comOne (txt x) t) t).size ≤ t.size := by
  induction l with
  | nil => exact fun t => Nat.le_refl _
  | cons x l ih => exact fun t => Nat.le_trans (ih _) (comOne_spec (txt x) _ t (Nat.le_refl _)).1
theorem foldl_all {l : List Pw} : ∀ (t : ByteArray), ∀ x ∈ l, (l.foldl (fun t x => comOne (txt x) t) t).size ≤ (txt x).size := by
  induction l with
  | nil => intro t x hx; cases hx
  | cons y l ih =>
    intro t x hx
    rw [List.foldl_cons]
    rcases List.mem_cons.1 hx with rfl | hx
    · have h1 := foldl_le l (comOne (txt x) t)
      have h2 := preB_size (comOne_spec (txt x) _ t (Nat.le_refl _)).2
      omega
    · exact ih _ x hx
theorem common_all {l : List Pw} {x : Pw} (hx : x ∈ l) : (commonP l).size ≤ (txt x).size := by
  cases l with
  | nil => cases hx
  | cons y l => exact foldl_all (l := y :: l) _ x hx
end Go.Proofs.Ytkhgnfofinpofaa

/-
  A pattern's edges: plain words.
-/
namespace Go.Proofs.Ytkhgnfofinpofaa

def slashR : ByteArray := ⟨#[47]⟩
def stepsGo : List Pc → Nat → ByteArray → List Pc → List Pc
  | [], _, t, out => if t.size = 0 then out else out ++ [(0, t)]
  | p :: l, k, t, out => if p.1 = 0 then stepsGo l (k + 1) ((if k = 0 then t else t ++ slashR) ++ p.2) out
    else stepsGo l (k + 1) ⟨#[]⟩ ((if (if k = 0 then t else t ++ slashR).size = 0 then out else out ++ [(0, if k = 0 then t else t ++ slashR)]) ++ [p])
def stepsP (l : List Pc) : List Pc := stepsGo l 0 ⟨#[]⟩ []
def totP (l : List Pc) : Nat := (l.map fun p => p.2.size + 1).sum
theorem totP_cons (p : Pc) (l : List Pc) : totP (p :: l) = p.2.size + 1 + totP l := by simp [totP]
theorem totP_len (l : List Pc) : l.length ≤ totP l := by
  induction l with
  | nil => exact Nat.le_refl _
  | cons p l ih => rw [totP_cons, List.length_cons]; omega
theorem slash_size (t : ByteArray) : (t ++ slashR).size = t.size + 1 := ByteArray.size_append
section
variable {p : Pc} {l out : List Pc} {k : Nat} {t : ByteArray}
theorem steps_first_text (h : p.1 = 0) (h0 : k = 0) : stepsGo (p :: l) k t out = stepsGo l (k + 1) (t ++ p.2) out := by
  conv => lhs; unfold stepsGo
  rw [if_pos h, if_pos h0]
theorem steps_text (h : p.1 = 0) (h0 : ¬ k = 0) : stepsGo (p :: l) k t out = stepsGo l (k + 1) (t ++ slashR ++ p.2) out := by
  conv => lhs; unfold stepsGo
  rw [if_pos h, if_neg h0]
theorem steps_first_edge (h : ¬ p.1 = 0) (h0 : k = 0) (ht : t.size = 0) : stepsGo (p :: l) k t out = stepsGo l (k + 1) ⟨#[]⟩ (out ++ [p]) := by
  conv => lhs; unfold stepsGo
  rw [if_neg h, if_pos h0, if_pos ht]
theorem steps_edge (h : ¬ p.1 = 0) (h0 : ¬ k = 0) : stepsGo (p :: l) k t out = stepsGo l (k + 1) ⟨#[]⟩ (out ++ [(0, t ++ slashR)] ++ [p]) := by
  conv => lhs; unfold stepsGo
  rw [if_neg h, if_neg h0, if_neg (by rw [slash_size]; omega)]
theorem steps_end (ht : t.size = 0) : stepsGo [] k t out = out := if_pos ht
theorem steps_end_text (ht : ¬ t.size = 0) : stepsGo [] k t out = out ++ [(0, t)] := if_neg ht
end
theorem drop_of_some {α : Type} {l : List α} {k : Nat} {x : α} (h : l[k]? = some x) : l.drop k = x :: l.drop (k + 1) := by
  obtain ⟨hk, hx⟩ := List.getElem?_eq_some_iff.1 h
  rw [List.drop_eq_getElem_cons hk, hx]
end Go.Proofs.Ytkhgnfofinpofaa

/-
  The tree of some ways: plain words, and where it lies in memory.
-/
namespace Go.Proofs.Ytkhgnfofinpofaa


/-- A tree's node, or the chain of a node's edges that are texts. -/
inductive Tr where
  | none : Tr
  | node (ends : Nat) (kids param rest : Tr) : Tr
  | kid (text : ByteArray) (t more : Tr) : Tr
/-- How much is left of some ways. -/
def totS (l : List Pc) : Nat := (l.map fun p => p.2.size + 1).sum
def meas (ws : List Pw) : Nat := (ws.map fun x => totS x.2).sum
def endsP (ws : List Pw) : Nat := ws.foldl (fun e x => match x.2 with | [] => x.1 + 1 | _ => e) 0
def edgeOne (k : Int) (x : Pw) : List Pw := match x.2 with
  | [] => []
  | p :: r => if p.1 = k then [(x.1, r)] else []
def edgeP (k : Int) (ws : List Pw) : List Pw := ws.flatMap (edgeOne k)
def groupOne (c : Nat) (x : Pw) : List Pw := match x.2 with
  | [] => []
  | p :: _ => if p.1 = 1 ∨ p.1 = 2 then [] else if bt p.2 0 = c then [x] else []
def groupP (c : Nat) (ws : List Pw) : List Pw := ws.flatMap (groupOne c)
def kidOne (B : List Pw → Tr) (g : List Pw) : List (ByteArray × Tr) := if g = [] then [] else [(commonP g, B (cutP (commonP g).size g))]
def kidsL (B : List Pw → Tr) (ws : List Pw) : Nat → List (ByteArray × Tr)
  | 0 => []
  | c + 1 => kidsL B ws c ++ kidOne B (groupP c ws)
def chain : List (ByteArray × Tr) → Tr
  | [] => .none
  | x :: l => .kid x.1 x.2 (chain l)
def edgeT (B : List Pw → Tr) (l : List Pw) : Tr := if l = [] then .none else B l
def buildP : Nat → List Pw → Tr
  | 0, _ => .none
  | n + 1, ws => .node (endsP ws) (chain (kidsL (buildP n) ws 256)) (edgeT (buildP n) (edgeP 1 ws)) (edgeT (buildP n) (edgeP 2 ws))
/-- Ways as they come out of patterns: texts are not empty. -/
def wfS (l : List Pc) : Prop := ∀ p ∈ l, p.1 = 0 → 0 < p.2.size
def wfW (ws : List Pw) : Prop := ∀ x ∈ ws, wfS x.2 ∧ ∀ p ∈ x.2, p.1 = 0 ∨ p.1 = 1 ∨ p.1 = 2
theorem endsP_snoc (ws : List Pw) (x : Pw) : endsP (ws ++ [x]) = match x.2 with | [] => x.1 + 1 | _ => endsP ws := by
  unfold endsP
  rw [List.foldl_append]
  rfl
theorem edgeP_snoc (k : Int) (ws : List Pw) (x : Pw) : edgeP k (ws ++ [x]) = edgeP k ws ++ edgeOne k x := by simp [edgeP]
theorem groupP_snoc (c : Nat) (ws : List Pw) (x : Pw) : groupP c (ws ++ [x]) = groupP c ws ++ groupOne c x := by simp [groupP]
theorem meas_cons (x : Pw) (ws : List Pw) : meas (x :: ws) = totS x.2 + meas ws := by simp [meas]
theorem totS_cons (p : Pc) (l : List Pc) : totS (p :: l) = p.2.size + 1 + totS l := by simp [totS]
theorem edge_meas (k : Int) (ws : List Pw) : meas (edgeP k ws) + (edgeP k ws).length ≤ meas ws := by
  induction ws with
  | nil => exact Nat.le_refl _
  | cons x ws ih =>
    have e : edgeP k (x :: ws) = edgeOne k x ++ edgeP k ws := rfl
    rw [e, meas_cons]
    obtain ⟨i, l⟩ := x
    cases l with
    | nil =>
      show meas (edgeP k ws) + _ ≤ _
      have : (edgeOne k (i, ([] : List Pc)) ++ edgeP k ws).length = (edgeP k ws).length := rfl
      omega
    | cons p r =>
      unfold edgeOne
      dsimp only
      split
      · rw [List.cons_append, meas_cons, List.length_cons, totS_cons]
        simp only [List.nil_append]
        omega
      · rw [List.nil_append]
        omega
theorem group_mem {c : Nat} {ws : List Pw} {x : Pw} (h : x ∈ groupP c ws) : x ∈ ws ∧ ∃ p r, x.2 = p :: r ∧ ¬ p.1 = 1 ∧ ¬ p.1 = 2 ∧ bt p.2 0 = c := by
  unfold groupP at h
  obtain ⟨y, hy, hx⟩ := List.mem_flatMap.1 h
  unfold groupOne at hx
  split at hx
  · cases hx
  · rename_i p r e
    split at hx
    · cases hx
    · rename_i hn
      split at hx
      · rename_i hb
        obtain rfl : x = y := by simpa using hx
        exact ⟨hy, p, r, e, fun h => hn (.inl h), fun h => hn (.inr h), hb⟩
      · cases hx
theorem group_meas (c : Nat) (ws : List Pw) : meas (groupP c ws) ≤ meas ws := by
  induction ws with
  | nil => exact Nat.le_refl _
  | cons x ws ih =>
    have e : groupP c (x :: ws) = groupOne c x ++ groupP c ws := rfl
    rw [e, meas_cons]
    have h2 : groupOne c x = [] ∨ groupOne c x = [x] := by
      unfold groupOne
      split
      · exact .inl rfl
      · split
        · exact .inl rfl
        · split
          · exact .inr rfl
          · exact .inl rfl
    rcases h2 with h | h
    · rw [h, List.nil_append]; omega
    · rw [h, List.cons_append, List.nil_append, meas_cons]; omega
theorem cut_meas_one {n : Nat} {x : Pw} (hx : x.2 ≠ []) (hn : n ≤ (txt x).size) (h1 : 1 ≤ n) : totS (cutOne n x).2 + 1 ≤ totS x.2 := by
  obtain ⟨i, l⟩ := x
  cases l with
  | nil => exact absurd rfl hx
  | cons p r =>
    have ht : txt (i, p :: r) = p.2 := rfl
    rw [ht] at hn
    have hz := ext_size p.2 (a := n) (b := p.2.size) hn (Nat.le_refl _)
    unfold cutOne
    dsimp only
    rw [ht]
    split
    · rw [List.tail_cons, totS_cons]; omega
    · rw [List.tail_cons, totS_cons, totS_cons]
      dsimp only
      omega
theorem cut_meas {n : Nat} {ws : List Pw} (h : ∀ x ∈ ws, x.2 ≠ [] ∧ n ≤ (txt x).size) (h1 : 1 ≤ n) : meas (cutP n ws) + ws.length ≤ meas ws := by
  induction ws with
  | nil => exact Nat.le_refl _
  | cons x ws ih =>
    have e : cutP n (x :: ws) = cutOne n x :: cutP n ws := rfl
    rw [e, meas_cons, meas_cons, List.length_cons]
    have h2 := h x (List.mem_cons_self ..)
    have h3 := cut_meas_one h2.1 h2.2 h1
    have h4 := ih fun y hy => h y (List.mem_cons_of_mem _ hy)
    omega
theorem wfW.mem {ws ws' : List Pw} (h : wfW ws) (hs : ∀ x ∈ ws', x ∈ ws) : wfW ws' := fun x hx => h x (hs x hx)
theorem wfW.edge {k : Int} {ws : List Pw} (h : wfW ws) : wfW (edgeP k ws) := fun x hx => by
  unfold edgeP at hx
  obtain ⟨y, hy, hx⟩ := List.mem_flatMap.1 hx
  unfold edgeOne at hx
  split at hx
  · cases hx
  · rename_i p r e
    split at hx
    · obtain rfl : x = (y.1, r) := by simpa using hx
      obtain ⟨h1, h2⟩ := h y hy
      rw [e] at h1 h2
      exact ⟨fun q hq => h1 q (List.mem_cons_of_mem _ hq), fun q hq => h2 q (List.mem_cons_of_mem _ hq)⟩
    · cases hx
theorem wfW.group {c : Nat} {ws : List Pw} (h : wfW ws) : wfW (groupP c ws) := h.mem fun _ hx => (group_mem hx).1
theorem wfW.cut {n : Nat} {ws : List Pw} (h : wfW ws) : wfW (cutP n ws) := fun x hx => by
  unfold cutP at hx
  obtain ⟨y, hy, rfl⟩ := List.mem_map.1 hx
  obtain ⟨h1, h2⟩ := h y hy
  have ht : ∀ q, q ∈ y.2.tail → q ∈ y.2 := fun q hq => List.mem_of_mem_tail hq
  unfold cutOne
  dsimp only
  split
  · exact ⟨fun q hq => h1 q (ht q hq), fun q hq => h2 q (ht q hq)⟩
  · rename_i hz
    refine ⟨fun q hq h0 => ?_, fun q hq => ?_⟩
    · rcases List.mem_cons.1 hq with rfl | hq
      · show 0 < ((txt y).extract n (txt y).size).size
        omega
      · exact h1 q (ht q hq) h0
    · rcases List.mem_cons.1 hq with rfl | hq
      · exact .inl rfl
      · exact h2 q (ht q hq)
/-- What the ways of a group have in common is not empty. -/
theorem comOne_pos {y t : ByteArray} (hy : 0 < y.size) (hb : bt y 0 = bt t 0) : ∀ (n : Nat), t.size ≤ n → 0 < t.size → 0 < (comOne y t).size ∧ bt (comOne y t) 0 = bt t 0
  | n, hn, ht => by
    cases h : preB y t
    · obtain ⟨_, h1⟩ := comOne_no h
      by_cases h2 : t.size = 1
      · exfalso
        have hp : preB y t = true := by
          unfold preB Lib.hasPrefix
          obtain ⟨yl, hyl⟩ : ∃ a l, y.data.toList = a :: l := by
            cases e : y.data.toList with
            | nil => have := size_eq y; rw [e] at this; simp at this; omega
            | cons a l => exact ⟨a, l, rfl⟩
          obtain ⟨l, hyl⟩ := hyl
          obtain ⟨a2, htl⟩ : ∃ a, t.data.toList = [a] := by
            have hl := size_eq t
            cases e : t.data.toList with
            | nil => rw [e] at hl; simp at hl; omega
            | cons a l =>
              rw [e] at hl
              cases l with
              | nil => exact ⟨a, rfl⟩
              | cons b l => simp at hl; omega
          unfold bt at hb
          rw [hyl, htl] at hb ⊢
          simp at hb
          have : yl = a2 := by
            apply UInt8.toNat_inj.1
            exact Int.ofNat_inj.1 hb
          rw [this]
          simp
        rw [hp] at h
        cases h
      · have hz := ext_size t (a := 0) (b := t.size - 1) (by omega) (by omega)
        have hb0 := ext_bt t (a := 0) (b := t.size - 1) (j := 0) (by omega)
        rw [Nat.zero_add] at hb0
        match n, hn with
        | 0, hn => omega
        | n + 1, hn =>
          rw [h1]
          obtain ⟨a, b⟩ := comOne_pos (y := y) (t := t.extract 0 (t.size - 1)) hy (by rw [hb0]; exact hb) n (by omega) (by omega)
          exact ⟨a, by rw [b, hb0]⟩
    · rw [comOne_yes h]
      exact ⟨ht, rfl⟩
theorem foldl_pos {c : Int} : ∀ (l : List Pw), (∀ x ∈ l, 0 < (txt x).size ∧ bt (txt x) 0 = c) → ∀ t : ByteArray, 0 < t.size → bt t 0 = c → 0 < (l.foldl (fun t x => comOne (txt x) t) t).size
  | [], _, t, ht, _ => ht
  | x :: l, h, t, ht, hc => by
    rw [List.foldl_cons]
    obtain ⟨h1, h2⟩ := h x (List.mem_cons_self ..)
    obtain ⟨a, b⟩ := comOne_pos (y := txt x) (t := t) h1 (by rw [h2, hc]) _ (Nat.le_refl _) ht
    exact foldl_pos l (fun y hy => h y (List.mem_cons_of_mem _ hy)) _ a (by rw [b, hc])
theorem common_pos {c : Nat} {ws : List Pw} (hw : wfW ws) (hne : groupP c ws ≠ []) : 0 < (commonP (groupP c ws)).size := by
  have h : ∀ x ∈ groupP c ws, 0 < (txt x).size ∧ bt (txt x) 0 = (c : Int) := fun x hx => by
    obtain ⟨hm, p, r, e, h1, h2, h3⟩ := group_mem hx
    obtain ⟨w1, w2⟩ := hw x hm
    rw [e] at w1 w2
    have hk := w2 p (List.mem_cons_self ..)
    have ht : txt x = p.2 := by unfold txt; rw [e]
    rw [ht]
    exact ⟨w1 p (List.mem_cons_self ..) (by omega), h3⟩
  cases e : groupP c ws with
  | nil => exact absurd e hne
  | cons x l =>
    rw [e] at h
    obtain ⟨a, b⟩ := h x (List.mem_cons_self ..)
    exact foldl_pos (x :: l) h (txt x) a b
end Go.Proofs.Ytkhgnfofinpofaa
