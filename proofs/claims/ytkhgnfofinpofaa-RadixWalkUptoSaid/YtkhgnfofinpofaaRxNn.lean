/-
  The nodes of the tree, as beginnings of rows of symbols: plain words.
-/
import Derived.Test.YtkhgnfofinpofaaRxV
namespace Go.Proofs.Ytkhgnfofinpofaa

/-- How many nodes there are. -/
def cntT : Tr → Nat
  | .none => 0
  | .node _ kids param rest => 1 + cntT param + cntT rest + cntT kids
  | .kid _ t more => cntT t + cntT more
/-- What the nodes stand for. -/
def pathsT : Tr → List (List Nat)
  | .none => []
  | .node _ kids param rest => [] :: (pathsT kids ++ ((pathsT param).map (1000 :: ·) ++ (pathsT rest).map (1001 :: ·)))
  | .kid text t more => (pathsT t).map (bl text ++ ·) ++ pathsT more
theorem paths_length : ∀ T : Tr, (pathsT T).length = cntT T
  | .none => rfl
  | .node e kids param rest => by
    unfold pathsT cntT
    simp only [List.length_cons, List.length_append, List.length_map]
    rw [paths_length kids, paths_length param, paths_length rest]
    omega
  | .kid text t more => by
    unfold pathsT cntT
    rw [List.length_append, List.length_map, paths_length t, paths_length more]
/-- Which beginnings of rows are nodes, beside the root. -/
def NodeP (W : List (List Nat)) (p : List Nat) : Prop :=
  p ≠ [] ∧ (∃ x ∈ W, p <+: x) ∧ (p ∈ W ∨ (∃ q c, 1000 ≤ c ∧ p = q ++ [c]) ∨ (∃ c, 1000 ≤ c ∧ ∃ x ∈ W, p ++ [c] <+: x) ∨ ∃ c d, c ≠ d ∧ (∃ x ∈ W, p ++ [c] <+: x) ∧ ∃ y ∈ W, p ++ [d] <+: y)
theorem head_pre {p x : List Nat} {c : Nat} (h : p <+: x) (hp : p.head? = some c) : x.head? = some c := by
  obtain ⟨t, rfl⟩ := h
  cases p with
  | nil => cases hp
  | cons a p => exact hp
theorem pre_cases {p m : List Nat} {x : List Nat} (h1 : p <+: x) (h2 : m <+: x) : (∃ p', p = m ++ p') ∨ ∃ d t, m = p ++ d :: t := by
  rcases Nat.lt_or_ge p.length m.length with h | h
  · obtain ⟨t, ht⟩ := List.prefix_of_prefix_length_le h1 h2 (Nat.le_of_lt h)
    cases t with
    | nil => rw [List.append_nil] at ht; rw [ht] at h; exact absurd h (Nat.lt_irrefl _)
    | cons d t => exact .inr ⟨d, t, ht.symm⟩
  · obtain ⟨t, ht⟩ := List.prefix_of_prefix_length_le h2 h1 h
    exact .inl ⟨t, ht.symm⟩
theorem node_below {W R : List (List Nat)} {m : List Nat} {c : Nat} (hc : m.head? = some c) (hW : ∀ x, (x ∈ W ∧ x.head? = some c) ↔ ∃ r ∈ R, x = m ++ r) (hn : NodeP W m)
    (hno : ∀ p d t, m = p ++ d :: t → p ≠ [] → d < 1000 ∧ ∀ e ∈ p, e < 1000) (p : List Nat) : (p.head? = some c ∧ NodeP W p) ↔ ∃ p', p = m ++ p' ∧ (p' = [] ∨ NodeP R p') := by
  have happ : ∀ r : List Nat, (m ++ r).head? = some c := fun r => head_pre (List.prefix_append m r) hc
  have cancel : ∀ a b : List Nat, m ++ a <+: m ++ b ↔ a <+: b := fun a b => List.prefix_append_right_inj m
  constructor
  · rintro ⟨hp, hne, ⟨x, hx, hpx⟩, h⟩
    obtain ⟨r, hr, rfl⟩ := (hW x).1 ⟨hx, head_pre hpx hp⟩
    rcases pre_cases hpx (List.prefix_append m r) with ⟨p', rfl⟩ | ⟨d, t, hd⟩
    · refine ⟨p', rfl, ?_⟩
      by_cases e : p' = []
      · exact .inl e
      · refine .inr ⟨e, ⟨r, hr, (cancel _ _).1 hpx⟩, ?_⟩
        rcases h with h | ⟨q, a, ha, h⟩ | ⟨a, ha, y, hy, h⟩ | ⟨a, b, hab, ⟨y, hy, h1⟩, z, hz, h2⟩
        · obtain ⟨r', hr', h'⟩ := (hW _).1 ⟨h, hp⟩
          exact .inl (by rw [List.append_cancel_left h']; exact hr')
        · refine .inr (.inl ?_)
          obtain ⟨p0, b, rfl⟩ : ∃ p0 b, p' = p0 ++ [b] := ⟨p'.dropLast, p'.getLast e, (List.dropLast_concat_getLast e).symm⟩
          rw [← List.append_assoc] at h
          have h3 := (List.append_inj' h rfl).2
          obtain rfl : b = a := (List.cons.inj h3).1
          exact ⟨p0, b, ha, rfl⟩
        · rw [List.append_assoc] at h
          obtain ⟨r', hr', rfl⟩ := (hW y).1 ⟨hy, head_pre h (happ _)⟩
          exact .inr (.inr (.inl ⟨a, ha, r', hr', (cancel _ _).1 h⟩))
        · rw [List.append_assoc] at h1 h2
          obtain ⟨r1, hr1, rfl⟩ := (hW y).1 ⟨hy, head_pre h1 (happ _)⟩
          obtain ⟨r2, hr2, rfl⟩ := (hW z).1 ⟨hz, head_pre h2 (happ _)⟩
          exact .inr (.inr (.inr ⟨a, b, hab, ⟨r1, hr1, (cancel _ _).1 h1⟩, r2, hr2, (cancel _ _).1 h2⟩))
    · exfalso
      obtain ⟨n1, n2⟩ := hno p d t hd hne
      have next : ∀ a y, y ∈ W → p ++ [a] <+: y → a = d := fun a y hy h => by
        have hya : y.head? = some c := head_pre ((List.prefix_append p [a]).trans h) hp
        obtain ⟨r', _, rfl⟩ := (hW y).1 ⟨hy, hya⟩
        rw [hd, List.append_assoc] at h
        have h5 := (List.prefix_append_right_inj p).1 h
        have h6 := List.cons_prefix_cons.1 h5
        exact h6.1
      rcases h with h | ⟨q, a, ha, h⟩ | ⟨a, ha, y, hy, h⟩ | ⟨a, b, hab, ⟨y, hy, h1⟩, z, hz, h2⟩
      · obtain ⟨r', _, h'⟩ := (hW _).1 ⟨h, hp⟩
        rw [hd] at h'
        have := congrArg List.length h'
        simp at this
      · have := n2 a (by rw [h]; simp)
        omega
      · have := next a y hy h
        omega
      · exact hab ((next a y hy h1).trans (next b z hz h2).symm)
  · rintro ⟨p', rfl, rfl | ⟨hne, ⟨r, hr, hpr⟩, h⟩⟩
    · rw [List.append_nil]
      exact ⟨hc, hn⟩
    · have memW : ∀ r ∈ R, m ++ r ∈ W := fun r hr => ((hW _).2 ⟨r, hr, rfl⟩).1
      have up : ∀ (a : List Nat) (r : List Nat), a <+: r → m ++ a <+: m ++ r := fun a r h => (cancel _ _).2 h
      refine ⟨happ _, (by intro e; exact hne (List.append_eq_nil_iff.1 e).2), ⟨m ++ r, memW r hr, up _ _ hpr⟩, ?_⟩
      rcases h with h | ⟨q, a, ha, rfl⟩ | ⟨a, ha, y, hy, h⟩ | ⟨a, b, hab, ⟨y, hy, h1⟩, z, hz, h2⟩
      · exact .inl (memW _ h)
      · exact .inr (.inl ⟨m ++ q, a, ha, (List.append_assoc _ _ _).symm⟩)
      · exact .inr (.inr (.inl ⟨a, ha, m ++ y, memW y hy, by rw [List.append_assoc]; exact up _ _ h⟩))
      · exact .inr (.inr (.inr ⟨a, b, hab, ⟨m ++ y, memW y hy, by rw [List.append_assoc]; exact up _ _ h1⟩, m ++ z, memW z hz, by rw [List.append_assoc]; exact up _ _ h2⟩))
/-! No two texts stand side by side in a way. -/
def altS : List Pc → Prop
  | [] => True
  | [_] => True
  | p :: q :: r => (p.1 = 0 → q.1 ≠ 0) ∧ altS (q :: r)
def altW (ws : List Pw) : Prop := ∀ x ∈ ws, altS x.2
theorem altS.tail {p : Pc} {r : List Pc} (h : altS (p :: r)) : altS r := by
  cases r with
  | nil => trivial
  | cons q r => exact h.2
theorem altS.tail' {l : List Pc} (h : altS l) : altS l.tail := by
  cases l with
  | nil => exact h
  | cons p r => exact h.tail
theorem altS.snoc {p : Pc} : ∀ {l : List Pc}, altS l → (∀ q, l.getLast? = some q → q.1 = 0 → p.1 ≠ 0) → altS (l ++ [p])
  | [], _, _ => trivial
  | [a], _, h => ⟨h a rfl, trivial⟩
  | a :: b :: r, h, hq => ⟨h.1, altS.snoc (l := b :: r) h.2 (fun q e => hq q (by rw [List.getLast?_cons_cons]; exact e))⟩
theorem altW.edge {k : Int} {ws : List Pw} (h : altW ws) : altW (edgeP k ws) := fun x hx => by
  unfold edgeP at hx
  obtain ⟨y, hy, hx⟩ := List.mem_flatMap.1 hx
  unfold edgeOne at hx
  split at hx
  · cases hx
  · rename_i p r e
    split at hx
    · obtain rfl : x = (y.1, r) := by simpa using hx
      have := h y hy
      rw [e] at this
      exact this.tail
    · cases hx
theorem altW.group {c : Nat} {ws : List Pw} (h : altW ws) : altW (groupP c ws) := fun x hx => h x (group_mem hx).1
theorem altW.cut {n : Nat} {ws : List Pw} (h : altW ws) (h0 : ∀ x ∈ ws, ∃ p r, x.2 = p :: r ∧ p.1 = 0) : altW (cutP n ws) := fun x hx => by
  unfold cutP at hx
  obtain ⟨y, hy, rfl⟩ := List.mem_map.1 hx
  have h1 := h y hy
  obtain ⟨p, r, e, hp⟩ := h0 y hy
  unfold cutOne
  dsimp only
  rw [e] at h1 ⊢
  split
  · exact h1.tail
  · cases r with
    | nil => trivial
    | cons q r => exact ⟨fun _ => h1.1 hp, h1.2⟩
theorem stepsGo_alt (l : List Pc) : ∀ (k : Nat) (t : ByteArray) (out : List Pc), (k = 0 → t.size = 0) → altS out → (∀ q, out.getLast? = some q → q.1 ≠ 0) → altS (stepsGo l k t out) := by
  induction l with
  | nil =>
    intro k t out _ ha hl
    by_cases ht : t.size = 0
    · rw [steps_end ht]; exact ha
    · rw [steps_end_text ht]
      exact ha.snoc fun q e h => absurd h (hl q e)
  | cons p l ih =>
    intro k t out ht ha hl
    by_cases hp : p.1 = 0
    · by_cases hk : k = 0
      · rw [steps_first_text hp hk]
        exact ih _ _ _ (fun h => absurd h (Nat.succ_ne_zero _)) ha hl
      · rw [steps_text hp hk]
        exact ih _ _ _ (fun h => absurd h (Nat.succ_ne_zero _)) ha hl
    · by_cases hk : k = 0
      · rw [steps_first_edge hp hk (ht hk)]
        refine ih _ _ _ (fun h => absurd h (Nat.succ_ne_zero _)) (ha.snoc fun q e h => absurd h (hl q e)) fun q e => ?_
        have e' : p = q := by simpa using e
        rw [← e']
        exact hp
      · rw [steps_edge hp hk]
        refine ih _ _ _ (fun h => absurd h (Nat.succ_ne_zero _)) (((ha.snoc fun q e h => absurd h (hl q e))).snoc fun q e _ => ?_) fun q e => ?_
        · exact hp
        · have e' : p = q := by simpa using e
          rw [← e']
          exact hp
theorem steps_alt (l : List Pc) : altS (stepsP l) := stepsGo_alt l 0 _ [] (fun _ => rfl) trivial (fun q e => by cases e)
theorem ways_alt (ls : List (List Pc)) : altW (waysP ls) := fun x hx => by
  obtain ⟨l, _, e, _⟩ := waysGo_mem hx
  rw [e]
  exact steps_alt l
/-! What a group has in common is as long as can be. -/
theorem comOne_max (y : ByteArray) : ∀ (n : Nat) (t : ByteArray), t.size ≤ n → bl (comOne y t) = bl t ∨ ∃ a, bl (comOne y t) ++ [a] <+: bl t ∧ ¬ bl (comOne y t) ++ [a] <+: bl y
  | n, t, hn => by
    cases h : preB y t
    · obtain ⟨h0, h1⟩ := comOne_no h
      have hz := ext_size t (a := 0) (b := t.size - 1) (by omega) (by omega)
      have hb : bl (t.extract 0 (t.size - 1)) = (bl t).take (t.size - 1) := by rw [bl_extract, List.drop_zero]
      have hnp : ¬ bl t <+: bl y := fun hc => by
        rw [preB_bl.2 hc] at h
        cases h
      match n, hn with
      | 0, hn => omega
      | n + 1, hn =>
        refine .inr ?_
        rcases comOne_max y n (t.extract 0 (t.size - 1)) (by omega) with h2 | ⟨a, h2, h3⟩
        · have hl : t.size - 1 < (bl t).length := by rw [bl_length]; omega
          have e : bl t = (bl t).take (t.size - 1) ++ [(bl t)[t.size - 1]] := by
            rw [← List.take_succ_eq_append_getElem hl, List.take_of_length_le (by rw [bl_length]; omega)]
          refine ⟨(bl t)[t.size - 1], ?_, ?_⟩
          · rw [h1, h2, hb, ← e]
            exact List.prefix_refl _
          · rw [h1, h2, hb, ← e]
            exact hnp
        · refine ⟨a, ?_, ?_⟩
          · rw [h1]
            refine h2.trans ?_
            rw [hb]
            exact List.take_prefix _ _
          · rw [h1]; exact h3
    · rw [comOne_yes h]
      exact .inl rfl
theorem foldl_max (l : List Pw) : ∀ t : ByteArray, bl (l.foldl (fun t x => comOne (txt x) t) t) = bl t ∨ ∃ y ∈ l, ∃ a, bl (l.foldl (fun t x => comOne (txt x) t) t) ++ [a] <+: bl t ∧ ¬ bl (l.foldl (fun t x => comOne (txt x) t) t) ++ [a] <+: bl (txt y) := by
  induction l with
  | nil => exact fun t => .inl rfl
  | cons y l ih =>
    intro t
    rw [List.foldl_cons]
    rcases ih (comOne (txt y) t) with h | ⟨z, hz, a, h1, h2⟩
    · rw [h]
      rcases comOne_max (txt y) _ t (Nat.le_refl _) with h2 | ⟨a, h2, h3⟩
      · exact .inl h2
      · exact .inr ⟨y, List.mem_cons_self .., a, h2, h3⟩
    · exact .inr ⟨z, List.mem_cons_of_mem _ hz, a, h1.trans (comOne_pre (txt y) _ t (Nat.le_refl _)), h2⟩
/-- A group's ways go on apart behind what they have in common, or one text ends there. -/
theorem common_max {G : List Pw} (hne : G ≠ []) : (∃ x ∈ G, bl (txt x) = bl (commonP G)) ∨ ∃ a b, a ≠ b ∧ (∃ x ∈ G, bl (commonP G) ++ [a] <+: bl (txt x)) ∧ ∃ y ∈ G, bl (commonP G) ++ [b] <+: bl (txt y) := by
  cases G with
  | nil => exact absurd rfl hne
  | cons x l =>
    rcases foldl_max (x :: l) (txt x) with h | ⟨y, hy, a, h1, h2⟩
    · exact .inl ⟨x, List.mem_cons_self .., h.symm⟩
    · have hp : bl (commonP (x :: l)) <+: bl (txt y) := common_pre hy
      obtain ⟨t, ht⟩ := hp
      cases t with
      | nil =>
        rw [List.append_nil] at ht
        exact .inl ⟨y, hy, ht.symm⟩
      | cons b t =>
        refine .inr ⟨a, b, ?_, ⟨x, List.mem_cons_self .., h1⟩, y, hy, ⟨t, by rw [← ht, List.append_assoc]; rfl⟩⟩
        rintro rfl
        exact h2 ⟨t, by rw [← ht, List.append_assoc]; rfl⟩
/-! The tree's nodes are the rows' beginnings that are nodes. -/
def syms (ws : List Pw) : List (List Nat) := ws.map fun x => symS x.2
theorem mem_syms {ws : List Pw} {y : List Nat} : y ∈ syms ws ↔ ∃ x ∈ ws, symS x.2 = y := List.mem_map
theorem head_param {x : Pw} {p : Pc} {r : List Pc} (hx : x.2 = p :: r) (h : p.1 = 1) : (symS x.2).head? = some 1000 := by rw [hx, sym_param h]; rfl
theorem head_rest {x : Pw} {p : Pc} {r : List Pc} (hx : x.2 = p :: r) (h : p.1 = 2) : (symS x.2).head? = some 1001 := by rw [hx, sym_rest h]; rfl
theorem head_text {x : Pw} {p : Pc} {r : List Pc} (hx : x.2 = p :: r) (h : p.1 = 0) (hz : 0 < p.2.size) : ∃ c : Nat, (symS x.2).head? = some c ∧ bt p.2 0 = (c : Int) ∧ c < 256 := by
  obtain ⟨c, t, e, hb⟩ := bl_head hz
  refine ⟨c, by rw [hx, sym_text h, e]; rfl, hb, ?_⟩
  exact bl_lt (s := p.2) (by rw [e]; exact List.mem_cons_self ..)
/-- Which rows begin with the symbol of an edge. -/
theorem edge_rows {k : Int} {e : Nat} (hk : (k = 1 ∧ e = 1000) ∨ (k = 2 ∧ e = 1001)) {ws : List Pw} (hw : wfW ws) (y : List Nat) : (y ∈ syms ws ∧ y.head? = some e) ↔ ∃ r ∈ syms (edgeP k ws), y = [e] ++ r := by
  constructor
  · rintro ⟨hy, hh⟩
    obtain ⟨x, hx, rfl⟩ := mem_syms.1 hy
    obtain ⟨w1, w2⟩ := hw x hx
    cases e2 : x.2 with
    | nil => rw [e2] at hh; cases hh
    | cons p r =>
      have hkp := w2 p (by rw [e2]; exact List.mem_cons_self ..)
      have hpk : p.1 = k := by
        rcases hkp with h | h | h
        · obtain ⟨c, h1, _, h3⟩ := head_text e2 h (w1 p (by rw [e2]; exact List.mem_cons_self ..) h)
          rw [h1] at hh
          have := Option.some.inj hh
          omega
        · rw [head_param e2 h] at hh
          have := Option.some.inj hh
          omega
        · rw [head_rest e2 h] at hh
          have := Option.some.inj hh
          omega
      refine ⟨symS r, mem_syms.2 ⟨(x.1, r), ?_, rfl⟩, ?_⟩
      · unfold edgeP
        refine List.mem_flatMap.2 ⟨x, hx, ?_⟩
        unfold edgeOne
        rw [e2]
        dsimp only
        rw [if_pos hpk]
        exact List.mem_singleton.2 rfl
      · rcases hk with ⟨rfl, rfl⟩ | ⟨rfl, rfl⟩
        · exact sym_param hpk r
        · exact sym_rest hpk r
  · rintro ⟨r, hr, rfl⟩
    obtain ⟨z, hz, rfl⟩ := mem_syms.1 hr
    unfold edgeP at hz
    obtain ⟨x, hx, hz⟩ := List.mem_flatMap.1 hz
    unfold edgeOne at hz
    split at hz
    · cases hz
    · rename_i p r e2
      split at hz
      · rename_i hpk
        obtain rfl : z = (x.1, r) := by simpa using hz
        refine ⟨mem_syms.2 ⟨x, hx, ?_⟩, rfl⟩
        rw [e2]
        rcases hk with ⟨rfl, rfl⟩ | ⟨rfl, rfl⟩
        · exact sym_param hpk r
        · exact sym_rest hpk r
      · cases hz
/-- Which rows begin with a byte. -/
theorem group_rows {c : Nat} (hc : c < 256) {ws : List Pw} (hw : wfW ws) (y : List Nat) : (y ∈ syms ws ∧ y.head? = some c) ↔ ∃ r ∈ syms (cutP (commonP (groupP c ws)).size (groupP c ws)), y = bl (commonP (groupP c ws)) ++ r := by
  have hcut : ∀ x ∈ groupP c ws, symS x.2 = bl (commonP (groupP c ws)) ++ symS (cutOne (commonP (groupP c ws)).size x).2 := fun x hx => by
    obtain ⟨p, r, e, h0, _⟩ := group_first hw hx
    exact sym_cut e h0 (common_pre hx)
  constructor
  · rintro ⟨hy, hh⟩
    obtain ⟨x, hx, rfl⟩ := mem_syms.1 hy
    obtain ⟨w1, w2⟩ := hw x hx
    have hg : x ∈ groupP c ws := by
      rw [groupP_filter hw]
      refine List.mem_filter.2 ⟨hx, ?_⟩
      unfold isG
      cases e2 : x.2 with
      | nil => rw [e2] at hh; cases hh
      | cons p r =>
        dsimp only
        have hkp := w2 p (by rw [e2]; exact List.mem_cons_self ..)
        rcases hkp with h | h | h
        · obtain ⟨a, h1, h2, h3⟩ := head_text e2 h (w1 p (by rw [e2]; exact List.mem_cons_self ..) h)
          rw [h1] at hh
          have := Option.some.inj hh
          subst this
          rw [decide_eq_true h, decide_eq_true h2]
          rfl
        · rw [head_param e2 h] at hh
          have := Option.some.inj hh
          omega
        · rw [head_rest e2 h] at hh
          have := Option.some.inj hh
          omega
    exact ⟨_, mem_syms.2 ⟨cutOne _ x, List.mem_map_of_mem hg, rfl⟩, hcut x hg⟩
  · rintro ⟨r, hr, rfl⟩
    obtain ⟨z, hz, rfl⟩ := mem_syms.1 hr
    obtain ⟨x, hx, rfl⟩ := List.mem_map.1 hz
    rw [← hcut x hx]
    refine ⟨mem_syms.2 ⟨x, (group_mem hx).1, rfl⟩, ?_⟩
    obtain ⟨p, r, e, h0, t, ht⟩ := group_first hw hx
    rw [e, sym_text h0, ht]
    rfl
theorem big_head {q : Pc} (r : List Pc) (h : q.1 = 1 ∨ q.1 = 2) : ∃ e t, 1000 ≤ e ∧ symS (q :: r) = e :: t := by
  rcases h with h | h
  · exact ⟨1000, _, Nat.le_refl _, sym_param h r⟩
  · exact ⟨1001, _, by decide, sym_rest h r⟩
/-- What a group has in common is a node. -/
theorem group_node {c : Nat} {ws : List Pw} (hw : wfW ws) (ha : altW ws) (hne : groupP c ws ≠ []) : NodeP (syms ws) (bl (commonP (groupP c ws))) := by
  obtain ⟨t, ht⟩ := common_head hw hne
  have hsym : ∀ x ∈ groupP c ws, ∃ p r, x.2 = p :: r ∧ p.1 = 0 ∧ symS x.2 = bl (txt x) ++ symS r := fun x hx => by
    obtain ⟨p, r, e, h0, _⟩ := group_first hw hx
    exact ⟨p, r, e, h0, by rw [e, sym_text h0]; unfold txt; rw [e]⟩
  refine ⟨by rw [ht]; simp, ?_, ?_⟩
  · obtain ⟨x, hx⟩ := List.exists_mem_of_ne_nil _ hne
    obtain ⟨p, r, e, h0, hs⟩ := hsym x hx
    exact ⟨_, mem_syms.2 ⟨x, (group_mem hx).1, rfl⟩, by rw [hs]; exact (common_pre hx).trans (List.prefix_append _ _)⟩
  · rcases common_max hne with ⟨x, hx, h⟩ | ⟨a, b, hab, ⟨x, hx, h1⟩, y, hy, h2⟩
    · obtain ⟨p, r, e, h0, hs⟩ := hsym x hx
      rw [h] at hs
      have hm := mem_syms.2 ⟨x, (group_mem hx).1, rfl⟩
      cases r with
      | nil =>
        refine .inl ?_
        rw [show symS ([] : List Pc) = [] from rfl, List.append_nil] at hs
        rw [← hs]
        exact hm
      | cons q r =>
        have h1 := ha x (group_mem hx).1
        rw [e] at h1
        have hq := h1.1 h0
        have hk := (hw x (group_mem hx).1).2 q (by rw [e]; simp)
        obtain ⟨d, t', hd, hsq⟩ := big_head r (q := q) (by omega)
        exact .inr (.inr (.inl ⟨d, hd, _, hm, by rw [hs, hsq]; exact ⟨t', by simp⟩⟩))
    · obtain ⟨_, _, _, _, hs1⟩ := hsym x hx
      obtain ⟨_, _, _, _, hs2⟩ := hsym y hy
      exact .inr (.inr (.inr ⟨a, b, hab, ⟨_, mem_syms.2 ⟨x, (group_mem hx).1, rfl⟩, by rw [hs1]; exact h1.trans (List.prefix_append _ _)⟩, _, mem_syms.2 ⟨y, (group_mem hy).1, rfl⟩, by rw [hs2]; exact h2.trans (List.prefix_append _ _)⟩))
def pathsL (L : List (ByteArray × Tr)) : List (List Nat) := L.flatMap fun x => (pathsT x.2).map (bl x.1 ++ ·)
theorem paths_chain (L : List (ByteArray × Tr)) : pathsT (chain L) = pathsL L := by
  induction L with
  | nil => rfl
  | cons x L ih =>
    show (pathsT x.2).map (bl x.1 ++ ·) ++ pathsT (chain L) = _
    rw [ih]
    rfl
/-- The nodes are just those, and each is there once. -/
def NodesOk (T : Tr) (W : List (List Nat)) : Prop := (∀ p, p ∈ pathsT T ↔ p = [] ∨ NodeP W p) ∧ (pathsT T).Nodup
theorem kids_nodes {ws : List Pw} (hw : wfW ws) (ha : altW ws) {B : List Pw → Tr} (hB : ∀ c, c < 256 → groupP c ws ≠ [] → NodesOk (B (cutP (commonP (groupP c ws)).size (groupP c ws))) (syms (cutP (commonP (groupP c ws)).size (groupP c ws)))) :
    ∀ k, k ≤ 256 → (∀ p, p ∈ pathsL (kidsL B ws k) ↔ ∃ c, c < k ∧ p.head? = some c ∧ NodeP (syms ws) p) ∧ (pathsL (kidsL B ws k)).Nodup
  | 0, _ => ⟨fun p => ⟨fun h => (by cases h), fun ⟨c, h, _⟩ => absurd h (Nat.not_lt_zero _)⟩, List.nodup_nil⟩
  | k + 1, hk => by
    obtain ⟨ih1, ih2⟩ := kids_nodes hw ha hB k (by omega)
    have e : pathsL (kidsL B ws (k + 1)) = pathsL (kidsL B ws k) ++ pathsL (kidOne B (groupP k ws)) := by
      unfold pathsL
      rw [← List.flatMap_append]
      rfl
    have key : (∀ p, p ∈ pathsL (kidOne B (groupP k ws)) ↔ p.head? = some k ∧ NodeP (syms ws) p) ∧ (pathsL (kidOne B (groupP k ws))).Nodup := by
      unfold kidOne
      by_cases hne : groupP k ws = []
      · rw [if_pos hne]
        refine ⟨fun p => ⟨fun h => (by cases h), fun ⟨hp, h0, ⟨x, hx, hpx⟩, _⟩ => ?_⟩, List.nodup_nil⟩
        obtain ⟨r, hr, _⟩ := (group_rows (by omega) hw x).1 ⟨hx, head_pre hpx hp⟩
        rw [hne] at hr
        cases hr
      · rw [if_neg hne]
        obtain ⟨b1, b2⟩ := hB k (by omega) hne
        have hn := node_below (c := k) (m := bl (commonP (groupP k ws))) (by obtain ⟨t, ht⟩ := common_head hw hne; rw [ht]; rfl) (group_rows (by omega) hw) (group_node hw ha hne) (fun p d t hd _ => by
          have h1 : ∀ e ∈ bl (commonP (groupP k ws)), e < 1000 := fun e he => Nat.lt_trans (bl_lt he) (by decide)
          rw [hd] at h1
          exact ⟨h1 d (by simp), fun e he => h1 e (by simp [he])⟩)
        have e2 : pathsL [(commonP (groupP k ws), B (cutP (commonP (groupP k ws)).size (groupP k ws)))] = (pathsT (B (cutP (commonP (groupP k ws)).size (groupP k ws)))).map (bl (commonP (groupP k ws)) ++ ·) := by
          unfold pathsL
          simp
        rw [e2]
        refine ⟨fun p => ?_, ?_⟩
        · rw [hn p, List.mem_map]
          constructor
          · rintro ⟨p', hp', rfl⟩
            exact ⟨p', rfl, (b1 p').1 hp'⟩
          · rintro ⟨p', rfl, hp'⟩
            exact ⟨p', (b1 p').2 hp', rfl⟩
        · exact List.Pairwise.map _ (fun a b hab h => hab (List.append_cancel_left h)) b2
    rw [e]
    refine ⟨fun p => ?_, ?_⟩
    · rw [List.mem_append, ih1, key.1]
      constructor
      · rintro (⟨c, h1, h2⟩ | h)
        · exact ⟨c, by omega, h2⟩
        · exact ⟨k, by omega, h⟩
      · rintro ⟨c, h1, h2⟩
        rcases Nat.lt_or_ge c k with h | h
        · exact .inl ⟨c, h, h2⟩
        · obtain rfl : c = k := by omega
          exact .inr h2
    · rw [List.nodup_append]
      refine ⟨ih2, key.2, fun a ha b hb => ?_⟩
      rintro rfl
      obtain ⟨c, hc, h1, _⟩ := (ih1 a).1 ha
      have h2 := ((key.1 a).1 hb).1
      rw [h1] at h2
      have := Option.some.inj h2
      omega
theorem edge_nodes {k : Int} {e : Nat} (hk : (k = 1 ∧ e = 1000) ∨ (k = 2 ∧ e = 1001)) {ws : List Pw} (hw : wfW ws) {B : List Pw → Tr} (hB : edgeP k ws ≠ [] → NodesOk (B (edgeP k ws)) (syms (edgeP k ws))) :
    (∀ p, p ∈ (pathsT (edgeT B (edgeP k ws))).map (e :: ·) ↔ p.head? = some e ∧ NodeP (syms ws) p) ∧ ((pathsT (edgeT B (edgeP k ws))).map (e :: ·)).Nodup := by
  unfold edgeT
  by_cases hne : edgeP k ws = []
  · rw [if_pos hne]
    refine ⟨fun p => ⟨fun h => (by cases h), fun ⟨hp, h0, ⟨x, hx, hpx⟩, _⟩ => ?_⟩, List.nodup_nil⟩
    obtain ⟨r, hr, _⟩ := (edge_rows hk hw x).1 ⟨hx, head_pre hpx hp⟩
    rw [hne] at hr
    cases hr
  · rw [if_neg hne]
    obtain ⟨b1, b2⟩ := hB hne
    obtain ⟨z, hz⟩ := List.exists_mem_of_ne_nil _ hne
    have hze := (edge_rows hk hw ([e] ++ symS z.2)).2 ⟨_, mem_syms.2 ⟨z, hz, rfl⟩, rfl⟩
    have hn := node_below (c := e) (m := [e]) rfl (edge_rows hk hw) ⟨by simp, ⟨_, hze.1, List.prefix_append _ _⟩, .inr (.inl ⟨[], e, by omega, rfl⟩)⟩ (fun p d t hd hp => by
      exfalso
      cases p with
      | nil => exact hp rfl
      | cons a p =>
        have := congrArg List.length hd
        simp at this)
    refine ⟨fun p => ?_, ?_⟩
    · rw [hn p, List.mem_map]
      constructor
      · rintro ⟨p', hp', rfl⟩
        exact ⟨p', rfl, (b1 p').1 hp'⟩
      · rintro ⟨p', rfl, hp'⟩
        exact ⟨p', (b1 p').2 hp', rfl⟩
    · exact List.Pairwise.map _ (fun a b hab h => hab (List.cons.inj h).2) b2
/-- THE NODES OF THE TREE. -/
theorem build_nodes : ∀ (n : Nat) (ws : List Pw), meas ws < n → wfW ws → altW ws → NodesOk (buildP n ws) (syms ws)
  | 0, ws, h, _, _ => absurd h (Nat.not_lt_zero _)
  | n + 1, ws, h, hw, ha => by
    have hk := kids_nodes hw ha (B := buildP n) (fun c hc hne => by
      have h1 : ∀ x ∈ groupP c ws, x.2 ≠ [] ∧ (commonP (groupP c ws)).size ≤ (txt x).size := fun x hx => by
        obtain ⟨_, p, r, e, _⟩ := group_mem hx
        exact ⟨by rw [e]; simp, common_all hx⟩
      have h2 := cut_meas h1 (common_pos hw hne)
      have h3 := group_meas c ws
      have h4 : 0 < (groupP c ws).length := List.length_pos_iff.2 hne
      exact build_nodes n _ (by omega) hw.group.cut (ha.group.cut fun x hx => by obtain ⟨p, r, e, h0, _⟩ := group_first hw hx; exact ⟨p, r, e, h0⟩)) 256 (Nat.le_refl _)
    have hed : ∀ k, edgeP k ws ≠ [] → NodesOk (buildP n (edgeP k ws)) (syms (edgeP k ws)) := fun k hne => by
      have h1 := edge_meas k ws
      have h4 : 0 < (edgeP k ws).length := List.length_pos_iff.2 hne
      exact build_nodes n _ (by omega) hw.edge ha.edge
    have hp := edge_nodes (.inl ⟨rfl, rfl⟩) hw (B := buildP n) (hed 1)
    have hr := edge_nodes (.inr ⟨rfl, rfl⟩) hw (B := buildP n) (hed 2)
    have e : pathsT (buildP (n + 1) ws) = [] :: (pathsL (kidsL (buildP n) ws 256) ++ ((pathsT (edgeT (buildP n) (edgeP 1 ws))).map (1000 :: ·) ++ (pathsT (edgeT (buildP n) (edgeP 2 ws))).map (1001 :: ·))) := by
      rw [← paths_chain]
      rfl
    unfold NodesOk
    rw [e]
    constructor
    · intro p
      rw [List.mem_cons, List.mem_append, List.mem_append, hk.1, hp.1, hr.1]
      constructor
      · rintro (rfl | ⟨c, _, _, h⟩ | ⟨_, h⟩ | ⟨_, h⟩)
        · exact .inl rfl
        · exact .inr h
        · exact .inr h
        · exact .inr h
      · rintro (rfl | h)
        · exact .inl rfl
        · refine .inr ?_
          obtain ⟨h0, ⟨x, hx, hpx⟩, _⟩ := id h
          obtain ⟨z, hz, rfl⟩ := mem_syms.1 hx
          obtain ⟨w1, w2⟩ := hw z hz
          obtain ⟨a, ha⟩ : ∃ a, p.head? = some a := by
            cases p with
            | nil => exact absurd rfl h0
            | cons a p => exact ⟨a, rfl⟩
          have hh := head_pre hpx ha
          cases e2 : z.2 with
          | nil => rw [e2] at hh; cases hh
          | cons q r =>
            rcases w2 q (by rw [e2]; exact List.mem_cons_self ..) with h1 | h1 | h1
            · obtain ⟨c, g1, _, g3⟩ := head_text e2 h1 (w1 q (by rw [e2]; exact List.mem_cons_self ..) h1)
              rw [g1] at hh
              have := Option.some.inj hh
              exact .inl ⟨a, by omega, ha, h⟩
            · rw [head_param e2 h1] at hh
              have := Option.some.inj hh
              exact .inr (.inl ⟨by rw [ha, this], h⟩)
            · rw [head_rest e2 h1] at hh
              have := Option.some.inj hh
              exact .inr (.inr ⟨by rw [ha, this], h⟩)
    · rw [List.nodup_cons, List.nodup_append, List.nodup_append]
      refine ⟨?_, hk.2, ⟨hp.2, hr.2, ?_⟩, ?_⟩
      · rw [List.mem_append, List.mem_append, hk.1, hp.1, hr.1]
        rintro (⟨c, _, h, _⟩ | ⟨h, _⟩ | ⟨h, _⟩) <;> cases h
      · rintro a h1 b h2 rfl
        have g1 := ((hp.1 a).1 h1).1
        have g2 := ((hr.1 a).1 h2).1
        rw [g1] at g2
        cases g2
      · rintro a h1 b h2 rfl
        obtain ⟨c, hc, g1, _⟩ := (hk.1 a).1 h1
        rcases List.mem_append.1 h2 with h2 | h2
        · have g2 := ((hp.1 a).1 h2).1
          rw [g1] at g2
          have := Option.some.inj g2
          omega
        · have g2 := ((hr.1 a).1 h2).1
          rw [g1] at g2
          have := Option.some.inj g2
          omega
end Go.Proofs.Ytkhgnfofinpofaa

/-
  A tree has no more nodes than the bound says: plain words.
-/
namespace Go.Proofs.Ytkhgnfofinpofaa

def edgN (l : List Pc) : Nat := l.countP fun p => !decide (p.1 = 0)
/-- What a way may cost. -/
def wayF (x : Pw) : Nat := 2 + 2 * edgN x.2
def sumF (ws : List Pw) : Nat := (ws.map wayF).sum
theorem sumF_cons (x : Pw) (ws : List Pw) : sumF (x :: ws) = wayF x + sumF ws := by simp [sumF]
theorem sumF_pos {ws : List Pw} (h : ws ≠ []) : 2 ≤ sumF ws := by
  cases ws with
  | nil => exact absurd rfl h
  | cons x ws => rw [sumF_cons]; unfold wayF; omega
theorem sumF_split (p q r : Pw → Bool) : ∀ (l : List Pw), (∀ x ∈ l, r x = (p x || q x)) → (∀ x ∈ l, ¬ (p x = true ∧ q x = true)) → sumF (l.filter r) = sumF (l.filter p) + sumF (l.filter q)
  | [], _, _ => rfl
  | x :: l, h1, h2 => by
    have ih := sumF_split p q r l (fun y hy => h1 y (List.mem_cons_of_mem _ hy)) (fun y hy => h2 y (List.mem_cons_of_mem _ hy))
    have e1 := h1 x (List.mem_cons_self ..)
    have e2 := h2 x (List.mem_cons_self ..)
    cases hp : p x <;> cases hq : q x
    · rw [List.filter_cons_of_neg (by rw [e1, hp, hq]; simp), List.filter_cons_of_neg (by rw [hp]; simp), List.filter_cons_of_neg (by rw [hq]; simp), ih]
    · rw [List.filter_cons_of_pos (by rw [e1, hp, hq]; simp), List.filter_cons_of_neg (by rw [hp]; simp), List.filter_cons_of_pos hq, sumF_cons, sumF_cons, ih]
      omega
    · rw [List.filter_cons_of_pos (by rw [e1, hp, hq]; simp), List.filter_cons_of_pos hp, List.filter_cons_of_neg (by rw [hq]; simp), sumF_cons, sumF_cons, ih]
      omega
    · exact absurd ⟨hp, hq⟩ e2
theorem edgN_cons (p : Pc) (l : List Pc) : edgN (p :: l) = (if p.1 = 0 then 0 else 1) + edgN l := by
  unfold edgN
  rw [List.countP_cons]
  by_cases h : p.1 = 0
  · rw [if_pos h, decide_eq_true h]; simp
  · rw [if_neg h, decide_eq_false h]; simp; omega
theorem edge_sum {k : Int} (hk : k = 1 ∨ k = 2) (ws : List Pw) : sumF (edgeP k ws) + 2 * (edgeP k ws).length = sumF (ws.filter (isK k)) := by
  rw [edgeP_map]
  have key : ∀ V : List Pw, (∀ x ∈ V, isK k x = true) → sumF (V.map behindP) + 2 * (V.map behindP).length = sumF V := fun V => by
    induction V with
    | nil => intro _; rfl
    | cons x V ih =>
      intro h
      have ih := ih fun y hy => h y (List.mem_cons_of_mem _ hy)
      obtain ⟨p, r, e, hp⟩ := isK_some (h x (List.mem_cons_self ..))
      rw [List.map_cons, sumF_cons, sumF_cons, List.length_cons]
      have e1 : wayF x = 2 + wayF (behindP x) := by
        unfold wayF behindP
        rw [e, edgN_cons, if_neg (by omega)]
        show _ = 2 + (2 + 2 * edgN r)
        omega
      omega
  exact key _ fun x hx => (List.mem_filter.1 hx).2
theorem cut_sum {n : Nat} {ws : List Pw} (h0 : ∀ x ∈ ws, ∃ p r, x.2 = p :: r ∧ p.1 = 0) : sumF (cutP n ws) = sumF ws := by
  induction ws with
  | nil => rfl
  | cons x ws ih =>
    have ih := ih fun y hy => h0 y (List.mem_cons_of_mem _ hy)
    have e : cutP n (x :: ws) = cutOne n x :: cutP n ws := rfl
    obtain ⟨p, r, ex, hp⟩ := h0 x (List.mem_cons_self ..)
    rw [e, sumF_cons, sumF_cons, ih]
    congr 1
    unfold wayF cutOne
    dsimp only
    rw [ex, edgN_cons, if_pos hp]
    split
    · show 2 + 2 * edgN r = _; omega
    · show 2 + 2 * edgN ((0, _) :: r) = _
      rw [edgN_cons, if_pos rfl]
def isGk (k : Nat) (x : Pw) : Bool := match x.2 with
  | [] => false
  | p :: _ => decide (p.1 = 0) && decide (bt p.2 0 < (k : Int))
def nGrp (ws : List Pw) : Nat → Nat
  | 0 => 0
  | k + 1 => nGrp ws k + if groupP k ws = [] then 0 else 1
theorem nGrp_zero {ws : List Pw} : ∀ {k : Nat}, nGrp ws k = 0 → ∀ c, c < k → groupP c ws = []
  | 0, _, c, hc => absurd hc (Nat.not_lt_zero _)
  | k + 1, h, c, hc => by
    have e : nGrp ws (k + 1) = nGrp ws k + if groupP k ws = [] then 0 else 1 := rfl
    rw [e] at h
    by_cases he : groupP k ws = []
    · rw [if_pos he] at h
      rcases Nat.lt_or_ge c k with h1 | h1
      · exact nGrp_zero h c h1
      · obtain rfl : c = k := by omega
        exact he
    · rw [if_neg he] at h
      omega
theorem nGrp_one {ws : List Pw} : ∀ {k : Nat}, nGrp ws k ≤ 1 → ∀ c d, c < k → d < k → groupP c ws ≠ [] → groupP d ws ≠ [] → c = d
  | 0, _, c, _, hc, _, _, _ => absurd hc (Nat.not_lt_zero _)
  | k + 1, h, c, d, hc, hd, h1, h2 => by
    have e : nGrp ws (k + 1) = nGrp ws k + if groupP k ws = [] then 0 else 1 := rfl
    rw [e] at h
    by_cases he : groupP k ws = []
    · rw [if_pos he] at h
      rcases Nat.lt_or_ge c k with a | a
      · rcases Nat.lt_or_ge d k with b | b
        · exact nGrp_one (by omega) c d a b h1 h2
        · obtain rfl : d = k := by omega
          exact absurd he h2
      · obtain rfl : c = k := by omega
        exact absurd he h1
    · rw [if_neg he] at h
      have hz := nGrp_zero (ws := ws) (k := k) (by omega)
      have a : ¬ c < k := fun a => h1 (hz c a)
      have b : ¬ d < k := fun b => h2 (hz d b)
      omega
theorem cnt_chain (L : List (ByteArray × Tr)) : cntT (chain L) = (L.map fun x => cntT x.2).sum := by
  induction L with
  | nil => rfl
  | cons x L ih =>
    show cntT x.2 + cntT (chain L) = _
    rw [ih]
    simp
theorem kids_bound {ws : List Pw} (hw : wfW ws) {B : List Pw → Tr} (hB : ∀ c, c < 256 → groupP c ws ≠ [] → cntT (B (cutP (commonP (groupP c ws)).size (groupP c ws))) + 1 ≤ sumF (groupP c ws)) :
    ∀ k, k ≤ 256 → cntT (chain (kidsL B ws k)) + nGrp ws k ≤ sumF (ws.filter (isGk k))
  | 0, _ => Nat.zero_le _
  | k + 1, hk => by
    have ih := kids_bound hw hB k (by omega)
    have e : kidsL B ws (k + 1) = kidsL B ws k ++ kidOne B (groupP k ws) := rfl
    have e2 : nGrp ws (k + 1) = nGrp ws k + if groupP k ws = [] then 0 else 1 := rfl
    have hs := sumF_split (isGk k) (isG k) (isGk (k + 1)) ws (fun x hx => by
      unfold isGk isG
      cases x.2 with
      | nil => rfl
      | cons p r =>
        dsimp only
        cases decide (p.1 = 0)
        · rfl
        · simp only [Bool.true_and]
          rw [Bool.eq_iff_iff, Bool.or_eq_true, decide_eq_true_iff, decide_eq_true_iff, decide_eq_true_iff]
          omega) (fun x hx => by
      unfold isGk isG
      cases x.2 with
      | nil => rintro ⟨h, _⟩; cases h
      | cons p r =>
        dsimp only
        rintro ⟨h1, h2⟩
        rw [Bool.and_eq_true, decide_eq_true_iff, decide_eq_true_iff] at h1 h2
        omega)
    rw [← groupP_filter hw] at hs
    rw [e, cnt_chain, List.map_append, List.sum_append, ← cnt_chain, e2, hs]
    unfold kidOne
    by_cases he : groupP k ws = []
    · rw [if_pos he, if_pos he]
      simp
      omega
    · have := hB k (by omega) he
      rw [if_neg he, if_neg he]
      simp
      omega
/-- All ways begin with one byte. -/
def OneG (ws : List Pw) : Prop := ∃ c, c < 256 ∧ groupP c ws = ws
theorem cut_not_one {c : Nat} {ws : List Pw} (hw : wfW ws) (ha : altW ws) (hne : groupP c ws ≠ []) : ¬ OneG (cutP (commonP (groupP c ws)).size (groupP c ws)) := by
  rintro ⟨d, hd, h⟩
  have hall : ∀ x ∈ groupP c ws, (symS (cutOne (commonP (groupP c ws)).size x).2).head? = some d ∧ ∃ p r, (cutOne (commonP (groupP c ws)).size x).2 = p :: r ∧ p.1 = 0 := fun x hx => by
    have hm : cutOne (commonP (groupP c ws)).size x ∈ groupP d (cutP (commonP (groupP c ws)).size (groupP c ws)) := by
      rw [h]
      exact List.mem_map_of_mem hx
    obtain ⟨p, r, e, h0, t, ht⟩ := group_first (hw.group.cut) hm
    exact ⟨by rw [e, sym_text h0, ht]; rfl, p, r, e, h0⟩
  have hsym : ∀ x ∈ groupP c ws, ∃ p r, x.2 = p :: r ∧ p.1 = 0 ∧ txt x = p.2 ∧ symS x.2 = bl (commonP (groupP c ws)) ++ symS (cutOne (commonP (groupP c ws)).size x).2 ∧ symS x.2 = bl p.2 ++ symS r := fun x hx => by
    obtain ⟨p, r, e, h0, _⟩ := group_first hw hx
    exact ⟨p, r, e, h0, by unfold txt; rw [e], sym_cut e h0 (common_pre hx), by rw [e]; exact sym_text h0 r⟩
  have next : ∀ x ∈ groupP c ws, ∀ a, bl (commonP (groupP c ws)) ++ [a] <+: bl (txt x) → a = d := fun x hx a hp => by
    obtain ⟨p, r, e, h0, ht, hs1, hs2⟩ := hsym x hx
    rw [ht] at hp
    have h1 : bl (commonP (groupP c ws)) ++ [a] <+: symS x.2 := by rw [hs2]; exact hp.trans (List.prefix_append _ _)
    rw [hs1] at h1
    have h2 := (List.prefix_append_right_inj _).1 h1
    have h3 := head_pre h2 (c := a) rfl
    rw [(hall x hx).1] at h3
    exact (Option.some.inj h3).symm
  rcases common_max hne with ⟨x, hx, h1⟩ | ⟨a, b, hab, ⟨x, hx, h1⟩, y, hy, h2⟩
  · obtain ⟨p, r, e, h0, ht, hs1, hs2⟩ := hsym x hx
    rw [← ht, h1, hs1] at hs2
    have h3 := List.append_cancel_left hs2
    have h4 := (hall x hx).1
    rw [h3] at h4
    have hal := ha x (group_mem hx).1
    rw [e] at hal
    cases r with
    | nil => cases h4
    | cons q r =>
      have hq := hal.1 h0
      have hk := (hw x (group_mem hx).1).2 q (by rw [e]; simp)
      obtain ⟨e', t', hd', hsq⟩ := big_head r (q := q) (by omega)
      rw [hsq] at h4
      have := Option.some.inj h4
      omega
  · exact hab ((next x hx a h1).trans (next y hy b h2).symm)
/-- THE BOUND. -/
theorem build_bound : ∀ (n : Nat) (ws : List Pw), meas ws < n → wfW ws → altW ws → ws ≠ [] → cntT (buildP n ws) ≤ sumF ws ∧ (¬ OneG ws → cntT (buildP n ws) + 1 ≤ sumF ws)
  | 0, ws, h, _, _, _ => absurd h (Nat.not_lt_zero _)
  | n + 1, ws, h, hw, ha, hws => by
    have hk := kids_bound hw (B := buildP n) (fun c hc hne => by
      have h1 : ∀ x ∈ groupP c ws, x.2 ≠ [] ∧ (commonP (groupP c ws)).size ≤ (txt x).size := fun x hx => by
        obtain ⟨_, p, r, e, _⟩ := group_mem hx
        exact ⟨by rw [e]; simp, common_all hx⟩
      have h2 := cut_meas h1 (common_pos hw hne)
      have h3 := group_meas c ws
      have h4 : 0 < (groupP c ws).length := List.length_pos_iff.2 hne
      have h5 : ∀ x ∈ groupP c ws, ∃ p r, x.2 = p :: r ∧ p.1 = 0 := fun x hx => by obtain ⟨p, r, e, h0, _⟩ := group_first hw hx; exact ⟨p, r, e, h0⟩
      have h6 := (build_bound n (cutP (commonP (groupP c ws)).size (groupP c ws)) (by omega) hw.group.cut (ha.group.cut h5) (by
        intro e
        unfold cutP at e
        exact hne (List.map_eq_nil_iff.1 e))).2 (cut_not_one hw ha hne)
      rw [cut_sum h5] at h6
      exact h6) 256 (Nat.le_refl _)
    have hed : ∀ k, k = 1 ∨ k = 2 → (edgeP k ws = [] ∧ cntT (edgeT (buildP n) (edgeP k ws)) = 0) ∨ (cntT (edgeT (buildP n) (edgeP k ws)) + 2 ≤ sumF (ws.filter (isK k))) := fun k hk => by
      unfold edgeT
      by_cases hne : edgeP k ws = []
      · rw [if_pos hne]; exact .inl ⟨hne, rfl⟩
      · rw [if_neg hne]
        refine .inr ?_
        have h1 := edge_meas k ws
        have h4 : 0 < (edgeP k ws).length := List.length_pos_iff.2 hne
        have h5 := (build_bound n _ (by omega) hw.edge ha.edge hne).1
        have h6 := edge_sum hk ws
        omega
    have h1 := hed 1 (.inl rfl)
    have h2 := hed 2 (.inr rfl)
    have e : cntT (buildP (n + 1) ws) = 1 + cntT (edgeT (buildP n) (edgeP 1 ws)) + cntT (edgeT (buildP n) (edgeP 2 ws)) + cntT (chain (kidsL (buildP n) ws 256)) := rfl
    -- the ways, by their first steps
    have p1 := sumF_split (isK 1) (isK 2) (fun x => isK 1 x || isK 2 x) ws (fun _ _ => rfl) (fun x hx => by
      unfold isK
      cases x.2 with
      | nil => rintro ⟨h, _⟩; cases h
      | cons p r => dsimp only; rintro ⟨h1, h2⟩; simp at h1 h2; omega)
    have p2 := sumF_split (fun x => isK 1 x || isK 2 x) (isGk 256) (fun x => !isE x) ws (fun x hx => by
      have hk := (hw x hx).2
      unfold isK isGk isE
      cases e : x.2 with
      | nil => rfl
      | cons p r =>
        have hk := hk p (by rw [e]; exact List.mem_cons_self ..)
        dsimp only
        have hb := bt_lt p.2 0
        rcases hk with h | h | h
        · rw [h]
          have : bt p.2 0 < ((256 : Nat) : Int) := hb
          rw [decide_eq_true this]
          rfl
        · rw [h]; rfl
        · rw [h]; rfl) (fun x hx => by
      unfold isK isGk
      cases x.2 with
      | nil => rintro ⟨h, _⟩; cases h
      | cons p r => dsimp only; rintro ⟨h1, h2⟩; simp at h1 h2; omega)
    have p3 := sumF_split isE (fun x => !isE x) (fun _ => true) ws (fun x _ => by cases isE x <;> rfl) (fun x _ => by cases isE x <;> simp)
    have p4 : ws.filter (fun _ => true) = ws := List.filter_eq_self.2 fun _ _ => rfl
    rw [p4] at p3
    -- every way ends, or has an edge, or lies in a group
    have hall : ∀ x ∈ ws, isE x = true ∨ isK 1 x = true ∨ isK 2 x = true ∨ ∃ c, c < 256 ∧ x ∈ groupP c ws := fun x hx => by
      obtain ⟨w1, w2⟩ := hw x hx
      unfold isE isK
      cases e2 : x.2 with
      | nil => exact .inl rfl
      | cons p r =>
        rcases w2 p (by rw [e2]; exact List.mem_cons_self ..) with h1 | h1 | h1
        · obtain ⟨c, _, g2, g3⟩ := head_text e2 h1 (w1 p (by rw [e2]; exact List.mem_cons_self ..) h1)
          refine .inr (.inr (.inr ⟨c, g3, ?_⟩))
          rw [groupP_filter hw]
          refine List.mem_filter.2 ⟨hx, ?_⟩
          unfold isG
          rw [e2]
          dsimp only
          rw [decide_eq_true h1, decide_eq_true g2]
          rfl
        · exact .inr (.inl (by simp [h1]))
        · exact .inr (.inr (.inl (by simp [h1])))
    rw [e]
    have q0 : ws.filter isE = [] ∨ 2 ≤ sumF (ws.filter isE) := by
      by_cases h : ws.filter isE = []
      · exact .inl h
      · exact .inr (sumF_pos h)
    rcases h1 with ⟨n1, z1⟩ | h1
    · rcases h2 with ⟨n2, z2⟩ | h2
      · by_cases hj : nGrp ws 256 = 0
        · have hz := nGrp_zero hj
          have hE : ws.filter isE ≠ [] := by
            obtain ⟨x, hx⟩ := List.exists_mem_of_ne_nil _ hws
            rcases hall x hx with h | h | h | ⟨c, hc, h⟩
            · exact List.ne_nil_of_mem (List.mem_filter.2 ⟨hx, h⟩)
            · have : behindP x ∈ edgeP 1 ws := by rw [edgeP_map]; exact List.mem_map_of_mem (List.mem_filter.2 ⟨hx, h⟩)
              rw [n1] at this; cases this
            · have : behindP x ∈ edgeP 2 ws := by rw [edgeP_map]; exact List.mem_map_of_mem (List.mem_filter.2 ⟨hx, h⟩)
              rw [n2] at this; cases this
            · rw [hz c hc] at h; cases h
          have := sumF_pos hE
          have hc0 : cntT (chain (kidsL (buildP n) ws 256)) = 0 := by
            have hk0 : ∀ k, k ≤ 256 → kidsL (buildP n) ws k = [] := fun k => by
              induction k with
              | zero => intro _; rfl
              | succ k ih =>
                intro hk
                show kidsL (buildP n) ws k ++ kidOne (buildP n) (groupP k ws) = []
                rw [ih (by omega), hz k (by omega)]
                rfl
            rw [hk0 256 (Nat.le_refl _)]
            rfl
          exact ⟨by omega, fun _ => by omega⟩
        · refine ⟨by omega, fun hno => ?_⟩
          by_cases hj1 : nGrp ws 256 = 1
          · rcases q0 with q0 | q0
            · exfalso
              have hone := nGrp_one (ws := ws) (k := 256) (by omega)
              have hin : ∀ x ∈ ws, ∃ c, c < 256 ∧ x ∈ groupP c ws := fun x hx => by
                rcases hall x hx with h | h | h | h
                · have : x ∈ ws.filter isE := List.mem_filter.2 ⟨hx, h⟩
                  rw [q0] at this; cases this
                · have : behindP x ∈ edgeP 1 ws := by rw [edgeP_map]; exact List.mem_map_of_mem (List.mem_filter.2 ⟨hx, h⟩)
                  rw [n1] at this; cases this
                · have : behindP x ∈ edgeP 2 ws := by rw [edgeP_map]; exact List.mem_map_of_mem (List.mem_filter.2 ⟨hx, h⟩)
                  rw [n2] at this; cases this
                · exact h
              obtain ⟨x, hx⟩ := List.exists_mem_of_ne_nil _ hws
              obtain ⟨c, hc, hxc⟩ := hin x hx
              refine hno ⟨c, hc, ?_⟩
              rw [groupP_filter hw]
              refine List.filter_eq_self.2 fun y hy => ?_
              obtain ⟨d, hd, hyd⟩ := hin y hy
              obtain rfl : c = d := hone c d hc hd (List.ne_nil_of_mem hxc) (List.ne_nil_of_mem hyd)
              rw [groupP_filter hw] at hyd
              exact (List.mem_filter.1 hyd).2
            · omega
          · omega
      · exact ⟨by omega, fun _ => by omega⟩
    · rcases h2 with ⟨n2, z2⟩ | h2
      · exact ⟨by omega, fun _ => by omega⟩
      · exact ⟨by omega, fun _ => by omega⟩
theorem edgN_append (a b : List Pc) : edgN (a ++ b) = edgN a + edgN b := by unfold edgN; rw [List.countP_append]
theorem stepsGo_edg (l : List Pc) : ∀ (k : Nat) (t : ByteArray) (out : List Pc), (k = 0 → t.size = 0) → edgN (stepsGo l k t out) = edgN out + edgN l := by
  induction l with
  | nil =>
    intro k t out _
    by_cases ht : t.size = 0
    · rw [steps_end ht]; rfl
    · rw [steps_end_text ht, edgN_append, edgN_cons, if_pos rfl]
      omega
  | cons p l ih =>
    intro k t out ht
    rw [edgN_cons]
    by_cases hp : p.1 = 0
    · rw [if_pos hp]
      by_cases hk : k = 0
      · rw [steps_first_text hp hk, ih _ _ _ (fun h => absurd h (Nat.succ_ne_zero _))]; omega
      · rw [steps_text hp hk, ih _ _ _ (fun h => absurd h (Nat.succ_ne_zero _))]; omega
    · rw [if_neg hp]
      by_cases hk : k = 0
      · rw [steps_first_edge hp hk (ht hk), ih _ _ _ (fun h => absurd h (Nat.succ_ne_zero _)), edgN_append, edgN_cons, if_neg hp]
        show _ + (1 + 0) + _ = _
        omega
      · rw [steps_edge hp hk, ih _ _ _ (fun h => absurd h (Nat.succ_ne_zero _)), edgN_append, edgN_append, edgN_cons, edgN_cons, if_neg hp, if_pos rfl]
        show _ + (0 + 0) + (1 + 0) + _ = _
        omega
theorem steps_edg (l : List Pc) : edgN (stepsP l) = edgN l := by
  unfold stepsP
  rw [stepsGo_edg l 0 _ [] (fun _ => rfl)]
  exact Nat.zero_add _
def edgL (ls : List (List Pc)) : Nat := (ls.map edgN).sum
theorem ways_sum (ls : List (List Pc)) : ∀ k, sumF (waysGo k ls) = 2 * ls.length + 2 * edgL ls := by
  induction ls with
  | nil => intro k; rfl
  | cons l ls ih =>
    intro k
    have e : waysGo k (l :: ls) = (k, stepsP l) :: waysGo (k + 1) ls := rfl
    rw [e, sumF_cons, ih]
    unfold wayF edgL
    dsimp only
    rw [steps_edg, List.map_cons, List.sum_cons, List.length_cons]
    omega
theorem cnt_one (n : Nat) : cntT (buildP (n + 1) []) = 1 := by
  have hk : ∀ k, kidsL (buildP n) [] k = [] := fun k => by
    induction k with
    | zero => rfl
    | succ k ih =>
      show kidsL (buildP n) [] k ++ kidOne (buildP n) (groupP k []) = []
      rw [ih]
      rfl
  show 1 + cntT (edgeT (buildP n) []) + cntT (edgeT (buildP n) []) + cntT (chain (kidsL (buildP n) [] 256)) = 1
  rw [hk]
  rfl
theorem cnt_pos (n : Nat) (ws : List Pw) : 1 ≤ cntT (buildP (n + 1) ws) := by
  have e : cntT (buildP (n + 1) ws) = 1 + cntT (edgeT (buildP n) (edgeP 1 ws)) + cntT (edgeT (buildP n) (edgeP 2 ws)) + cntT (chain (kidsL (buildP n) ws 256)) := rfl
  omega
/-- A tree of patterns has no more nodes than the bound says. -/
theorem tree_bound (ls : List (List Pc)) (h : ∀ l ∈ ls, ∀ p ∈ l, p.1 = 0 ∨ p.1 = 1 ∨ p.1 = 2) : cntT (buildP (meas (waysP ls) + 1) (waysP ls)) ≤ 2 * ls.length + 2 * edgL ls + 1 := by
  by_cases e : waysP ls = []
  · rw [e, cnt_one]
    omega
  · have h1 := (build_bound (meas (waysP ls) + 1) (waysP ls) (Nat.lt_succ_self _) (ways_wf h) (ways_alt ls) e).1
    have h2 := ways_sum ls 0
    unfold waysP at h1 ⊢
    omega
end Go.Proofs.Ytkhgnfofinpofaa

/-
  How the reference counts the nodes of a tree, in plain words; it is the tree's count.
-/
namespace Go.Proofs.Ytkhgnfofinpofaa

/-- How many numbers two rows begin with alike. -/
def comN : List Nat → List Nat → Nat
  | a :: x, b :: y => if a = b then comN x y + 1 else 0
  | _, _ => 0
theorem comN_le_l : ∀ x y : List Nat, comN x y ≤ x.length
  | [], _ => Nat.zero_le _
  | _ :: _, [] => Nat.zero_le _
  | a :: x, b :: y => by
    unfold comN
    split
    · have := comN_le_l x y
      rw [List.length_cons]
      omega
    · exact Nat.zero_le _
theorem comN_le_r : ∀ x y : List Nat, comN x y ≤ y.length
  | [], _ => Nat.zero_le _
  | _ :: _, [] => Nat.zero_le _
  | a :: x, b :: y => by
    unfold comN
    split
    · have := comN_le_r x y
      rw [List.length_cons]
      omega
    · exact Nat.zero_le _
/-- Two rows begin alike up to there, and no further. -/
theorem comN_pre : ∀ (x y : List Nat) (n : Nat), n ≤ x.length → (n ≤ comN x y ↔ x.take n <+: y)
  | _, _, 0, _ => by simp
  | [], y, n + 1, h => by simp at h
  | a :: x, [], n + 1, _ => by
    unfold comN
    simp
  | a :: x, b :: y, n + 1, h => by
    unfold comN
    rw [List.take_succ_cons, List.cons_prefix_cons]
    by_cases e : a = b
    · rw [if_pos e, ← comN_pre x y n (by simpa using h)]
      constructor
      · intro h; exact ⟨e, by omega⟩
      · rintro ⟨_, h⟩; omega
    · rw [if_neg e]
      constructor
      · intro h; omega
      · rintro ⟨h, _⟩; exact absurd h e
theorem comN_eq {x y : List Nat} {k : Nat} (h1 : k ≤ x.length) (h2 : k ≤ y.length) (h3 : ∀ j, j < k → x[j]? = y[j]?) (h4 : k = x.length ∨ k = y.length ∨ x[k]? ≠ y[k]?) : comN x y = k := by
  induction k generalizing x y with
  | zero =>
    cases x with
    | nil => rfl
    | cons a x =>
      cases y with
      | nil => rfl
      | cons b y =>
        unfold comN
        rw [if_neg]
        intro e
        rcases h4 with h | h | h
        · simp at h
        · simp at h
        · simp [e] at h
  | succ k ih =>
    cases x with
    | nil => simp at h1
    | cons a x =>
      cases y with
      | nil => simp at h2
      | cons b y =>
        have e : a = b := by simpa using h3 0 (Nat.succ_pos _)
        unfold comN
        rw [if_pos e, ih (by simpa using h1) (by simpa using h2) (fun j hj => by simpa using h3 (j + 1) (by omega)) (by simpa using h4)]
/-- Is a beginning of a row a node, as the reference asks it? -/
def isN (rows : List (List Nat)) (i n : Nat) : Bool := match rows[i]? with
  | none => false
  | some x => decide (n = x.length) || (decide (1000 ≤ x.getD (n - 1) 0) || (decide (1000 ≤ x.getD n 0) ||
      (List.range rows.length).any fun j => decide (comN x (rows.getD j []) = n) && (decide ((rows.getD j []).length = n) || !decide (j = i))))
/-- No row ahead begins so. -/
def firstN (rows : List (List Nat)) (i n : Nat) : Bool := (List.range i).all fun j => decide (comN (rows.getD i []) (rows.getD j []) < n)
def hitB (rows : List (List Nat)) (i n : Nat) : Bool := decide (2 ≤ n) && (isN rows i n && firstN rows i n)
def cntN (rows : List (List Nat)) (i : Nat) : Nat → Nat
  | 0 => 0
  | n + 1 => cntN rows i n + if hitB rows i n = true then 1 else 0
def totN (rows : List (List Nat)) : Nat → Nat
  | 0 => 1
  | i + 1 => totN rows i + cntN rows i ((rows.getD i []).length + 1)
def nodesR (rows : List (List Nat)) : Nat := totN rows rows.length
/-! The beginnings that are counted. -/
def begs (rows : List (List Nat)) (i : Nat) : List (List Nat) := ((List.range ((rows.getD i []).length + 1)).filter (hitB rows i)).map fun n => (rows.getD i []).take n
def begsTo (rows : List (List Nat)) : Nat → List (List Nat)
  | 0 => []
  | i + 1 => begsTo rows i ++ begs rows i
theorem cntN_len (rows : List (List Nat)) (i : Nat) : ∀ n, cntN rows i n = ((List.range n).filter (hitB rows i)).length
  | 0 => rfl
  | n + 1 => by
    unfold cntN
    rw [List.range_succ, List.filter_append, List.length_append, cntN_len rows i n]
    congr 1
    by_cases h : hitB rows i n = true
    · rw [if_pos h, List.filter_cons_of_pos h]; rfl
    · rw [if_neg h, List.filter_cons_of_neg h]; rfl
theorem totN_len (rows : List (List Nat)) : ∀ i, totN rows i = 1 + (begsTo rows i).length
  | 0 => rfl
  | i + 1 => by
    unfold totN begsTo
    rw [List.length_append, totN_len rows i, cntN_len]
    unfold begs
    rw [List.length_map]
    omega
theorem nodup_len {α : Type} [DecidableEq α] : ∀ (a b : List α), a.Nodup → (∀ x ∈ a, x ∈ b) → a.length ≤ b.length
  | [], _, _, _ => Nat.zero_le _
  | x :: a, b, hn, h => by
    have hx := h x (List.mem_cons_self ..)
    obtain ⟨h1, h2⟩ := List.nodup_cons.1 hn
    have ih := nodup_len a (b.erase x) h2 fun y hy => by
      have hne : y ≠ x := fun e => h1 (e ▸ hy)
      exact (List.mem_erase_of_ne hne).2 (h y (List.mem_cons_of_mem _ hy))
    rw [List.length_erase_of_mem hx] at ih
    have := List.length_pos_of_mem hx
    rw [List.length_cons]
    omega
theorem getD_some {α : Type} {l : List α} {i : Nat} {x d : α} (h : l[i]? = some x) : l.getD i d = x := by rw [List.getD_eq_getElem?_getD, h]; rfl
theorem take_next {x : List Nat} {n c : Nat} {t : List Nat} (h : x = x.take n ++ c :: t) (hn : n ≤ x.length) : x.getD n 0 = c := by
  have hl : (x.take n).length = n := by rw [List.length_take]; omega
  rw [h, List.getD_eq_getElem?_getD, List.getElem?_append_right (by omega), hl]
  simp
theorem len_take {x : List Nat} {n : Nat} (h : n ≤ x.length) : (x.take n).length = n := by rw [List.length_take]; omega
/-- What the reference asks is whether the beginning is a node of those rows. -/
theorem isN_node {rows : List (List Nat)} {i n : Nat} {x : List Nat} (hx : rows[i]? = some x) (h1 : 1 ≤ n) (hn : n ≤ x.length) (hf : firstN rows i n = true) : isN rows i n = true ↔ NodeP rows (x.take n) := by
  have hmem := List.mem_of_getElem? hx
  have hlen := len_take hn
  have hne : x.take n ≠ [] := fun e => by rw [e] at hlen; simp at hlen; omega
  have hsplit : n < x.length → x = x.take n ++ (x.getD n 0) :: x.drop (n + 1) := fun h => by
    rw [List.getD_eq_getElem?_getD, List.getElem?_eq_getElem h]
    show x = x.take n ++ x[n] :: x.drop (n + 1)
    rw [← List.drop_eq_getElem_cons h, List.take_append_drop]
  have hlast : x.take n = x.take (n - 1) ++ [x.getD (n - 1) 0] := by
    have h : n - 1 < x.length := by omega
    rw [List.getD_eq_getElem?_getD, List.getElem?_eq_getElem h]
    show x.take n = x.take (n - 1) ++ [x[n - 1]]
    rw [← List.take_succ_eq_append_getElem h]
    congr 1
    omega
  have e : isN rows i n = (decide (n = x.length) || (decide (1000 ≤ x.getD (n - 1) 0) || (decide (1000 ≤ x.getD n 0) ||
      (List.range rows.length).any fun j => decide (comN x (rows.getD j []) = n) && (decide ((rows.getD j []).length = n) || !decide (j = i))))) := by
    unfold isN
    rw [hx]
  rw [e]
  constructor
  · intro h
    refine ⟨hne, ⟨x, hmem, List.take_prefix _ _⟩, ?_⟩
    rw [Bool.or_eq_true, Bool.or_eq_true, Bool.or_eq_true, decide_eq_true_iff, decide_eq_true_iff, decide_eq_true_iff] at h
    rcases h with h | h | h | h
    · exact .inl (by rw [h, List.take_length]; exact hmem)
    · exact .inr (.inl ⟨_, _, h, hlast⟩)
    · by_cases hl : n < x.length
      · exact .inr (.inr (.inl ⟨_, h, x, hmem, ⟨x.drop (n + 1), by rw [List.append_assoc]; exact (hsplit hl).symm⟩⟩))
      · rw [List.getD_eq_getElem?_getD, List.getElem?_eq_none (by omega)] at h
        simp at h
    · obtain ⟨j, hj, h⟩ := List.any_eq_true.1 h
      rw [Bool.and_eq_true, decide_eq_true_iff, Bool.or_eq_true, decide_eq_true_iff, Bool.not_eq_true', decide_eq_false_iff_not] at h
      obtain ⟨hc, h⟩ := h
      have hjl : j < rows.length := List.mem_range.1 hj
      obtain ⟨y, hy⟩ : ∃ y, rows[j]? = some y := ⟨_, List.getElem?_eq_getElem hjl⟩
      rw [getD_some hy] at hc h
      have hym := List.mem_of_getElem? hy
      have hp : x.take n <+: y := (comN_pre x y n hn).1 (by omega)
      have hyn := comN_le_r x y
      by_cases hyl : y.length = n
      · refine .inl ?_
        have e2 : x.take n = y := hp.eq_of_length (by rw [hlen]; exact hyl.symm)
        rw [e2]
        exact hym
      · rcases Nat.lt_or_ge n x.length with hl | hl
        · -- both go on, otherwise
          obtain ⟨t, ht⟩ := hp
          cases t with
          | nil => rw [List.append_nil] at ht; rw [← ht] at hyl; exact absurd hlen hyl
          | cons d t =>
            refine .inr (.inr (.inr ⟨x.getD n 0, d, fun ed => ?_, ⟨x, hmem, ⟨x.drop (n + 1), by rw [List.append_assoc]; exact (hsplit hl).symm⟩⟩, y, hym, ⟨t, by rw [List.append_assoc]; exact ht⟩⟩))
            have h2 : n + 1 ≤ comN x y := (comN_pre x y (n + 1) (by omega)).2 (by
              have e3 : x.take (n + 1) = x.take n ++ [x.getD n 0] := by
                rw [List.getD_eq_getElem?_getD, List.getElem?_eq_getElem hl]
                exact List.take_succ_eq_append_getElem hl
              rw [e3, ed]
              exact ⟨t, by rw [List.append_assoc]; exact ht⟩)
            omega
        · have : n = x.length := by omega
          exact .inl (by rw [this, List.take_length]; exact hmem)
  · rintro ⟨_, _, h⟩
    rw [Bool.or_eq_true, Bool.or_eq_true, Bool.or_eq_true, decide_eq_true_iff, decide_eq_true_iff, decide_eq_true_iff]
    by_cases hl : n = x.length
    · exact .inl hl
    have hl : n < x.length := by omega
    -- another row that goes on otherwise
    have apart : ∀ y ∈ rows, ∀ d, x.take n ++ [d] <+: y → d ≠ x.getD n 0 → (List.range rows.length).any (fun j => decide (comN x (rows.getD j []) = n) && (decide ((rows.getD j []).length = n) || !decide (j = i))) = true := fun y hy d hp hd => by
      obtain ⟨j, hj, hyj⟩ := List.getElem_of_mem hy
      have hyj' : rows[j]? = some y := by rw [List.getElem?_eq_getElem hj, hyj]
      refine List.any_eq_true.2 ⟨j, List.mem_range.2 hj, ?_⟩
      rw [getD_some hyj']
      have c1 : n ≤ comN x y := (comN_pre x y n hn).2 ((List.prefix_append _ _).trans hp)
      have c2 : ¬ n + 1 ≤ comN x y := fun hc => by
        have h2 := (comN_pre x y (n + 1) (by omega)).1 hc
        have e3 : x.take (n + 1) = x.take n ++ [x.getD n 0] := by
          rw [List.getD_eq_getElem?_getD, List.getElem?_eq_getElem hl]
          exact List.take_succ_eq_append_getElem hl
        rw [e3] at h2
        have h3 := List.prefix_of_prefix_length_le h2 hp (by simp)
        have h4 := (List.prefix_append_right_inj _).1 h3
        exact hd (List.cons_prefix_cons.1 h4).1.symm
      have hji : j ≠ i := by
        rintro rfl
        rw [hx] at hyj'
        obtain rfl := Option.some.inj hyj'
        have h3 : x.take n ++ [d] <+: x.take n ++ (x.getD n 0 :: x.drop (n + 1)) := by rw [← hsplit hl]; exact hp
        have h4 := (List.prefix_append_right_inj _).1 h3
        exact hd (List.cons_prefix_cons.1 h4).1
      rw [Bool.and_eq_true, decide_eq_true_iff, Bool.or_eq_true, Bool.not_eq_true', decide_eq_false_iff_not]
      exact ⟨by omega, .inr hji⟩
    refine .inr ?_
    rcases h with h | ⟨q, c, hc, h⟩ | ⟨c, hc, y, hy, h⟩ | ⟨c, d, hcd, ⟨y, hy, g1⟩, z, hz, g2⟩
    · obtain ⟨j, hj, hyj⟩ := List.getElem_of_mem h
      have hyj' : rows[j]? = some (x.take n) := by rw [List.getElem?_eq_getElem hj, hyj]
      refine .inr (.inr (List.any_eq_true.2 ⟨j, List.mem_range.2 hj, ?_⟩))
      rw [getD_some hyj', hlen]
      have c1 : n ≤ comN x (x.take n) := (comN_pre x _ n hn).2 (List.prefix_refl _)
      have c2 := comN_le_r x (x.take n)
      rw [hlen] at c2
      rw [Bool.and_eq_true, decide_eq_true_iff]
      exact ⟨by omega, by simp⟩
    · refine .inl ?_
      rw [hlast] at h
      have := (List.append_inj' h rfl).2
      have := (List.cons.inj this).1
      omega
    · by_cases hd : c = x.getD n 0
      · exact .inr (.inl (by omega))
      · exact .inr (.inr (apart y hy c h hd))
    · by_cases hd : c = x.getD n 0
      · exact .inr (.inr (apart z hz d g2 (fun e => hcd (hd.trans e.symm))))
      · exact .inr (.inr (apart y hy c g1 hd))
theorem firstN_iff {rows : List (List Nat)} {i n : Nat} {x : List Nat} (hx : rows[i]? = some x) (hn : n ≤ x.length) : firstN rows i n = true ↔ ∀ j y, j < i → rows[j]? = some y → ¬ x.take n <+: y := by
  unfold firstN
  rw [List.all_eq_true, getD_some hx]
  constructor
  · intro h j y hj hy hp
    have := h j (List.mem_range.2 hj)
    rw [getD_some hy, decide_eq_true_iff] at this
    have h2 := (comN_pre x y n hn).2 hp
    omega
  · intro h j hj
    have hil := (List.getElem?_eq_some_iff.1 hx).1
    have hj := List.mem_range.1 hj
    obtain ⟨y, hy⟩ : ∃ y, rows[j]? = some y := ⟨_, List.getElem?_eq_getElem (by omega)⟩
    rw [getD_some hy, decide_eq_true_iff]
    have := h j y hj hy
    rw [← comN_pre x y n hn] at this
    omega
theorem begs_mem {rows : List (List Nat)} {i : Nat} {x : List Nat} (hx : rows[i]? = some x) (p : List Nat) : p ∈ begs rows i ↔ ∃ n, 2 ≤ n ∧ n ≤ x.length ∧ p = x.take n ∧ NodeP rows p ∧ ∀ j y, j < i → rows[j]? = some y → ¬ p <+: y := by
  unfold begs
  rw [List.mem_map, getD_some hx]
  constructor
  · rintro ⟨n, hn, rfl⟩
    obtain ⟨h1, h2⟩ := List.mem_filter.1 hn
    have h1 := List.mem_range.1 h1
    unfold hitB at h2
    rw [Bool.and_eq_true, Bool.and_eq_true, decide_eq_true_iff] at h2
    exact ⟨n, h2.1, by omega, rfl, (isN_node hx (by omega) (by omega) h2.2.2).1 h2.2.1, (firstN_iff hx (by omega)).1 h2.2.2⟩
  · rintro ⟨n, h1, h2, rfl, h3, h4⟩
    have hf := (firstN_iff hx h2).2 h4
    refine ⟨n, List.mem_filter.2 ⟨List.mem_range.2 (by omega), ?_⟩, rfl⟩
    unfold hitB
    rw [Bool.and_eq_true, Bool.and_eq_true, decide_eq_true_iff]
    exact ⟨h1, (isN_node hx (by omega) h2 hf).2 h3, hf⟩
theorem begs_nodup {rows : List (List Nat)} {i : Nat} {x : List Nat} (hx : rows[i]? = some x) : (begs rows i).Nodup := by
  unfold begs
  rw [getD_some hx]
  refine List.pairwise_map.2 ?_
  refine (List.Pairwise.filter _ List.nodup_range).imp_of_mem fun {a b} ha hb hab e => hab ?_
  have ha := List.mem_range.1 (List.mem_filter.1 ha).1
  have hb := List.mem_range.1 (List.mem_filter.1 hb).1
  have := congrArg List.length e
  rw [len_take (by omega), len_take (by omega)] at this
  exact this
theorem begsTo_spec (rows : List (List Nat)) : ∀ i, i ≤ rows.length → (∀ p, p ∈ begsTo rows i ↔ 2 ≤ p.length ∧ NodeP rows p ∧ ∃ j y, j < i ∧ rows[j]? = some y ∧ p <+: y) ∧ (begsTo rows i).Nodup
  | 0, _ => ⟨fun p => ⟨fun h => (by cases h), fun ⟨_, _, j, _, h, _⟩ => absurd h (Nat.not_lt_zero _)⟩, List.nodup_nil⟩
  | i + 1, hi => by
    obtain ⟨ih1, ih2⟩ := begsTo_spec rows i (by omega)
    obtain ⟨x, hx⟩ : ∃ x, rows[i]? = some x := ⟨_, List.getElem?_eq_getElem (by omega)⟩
    have hm := begs_mem hx
    unfold begsTo
    constructor
    · intro p
      rw [List.mem_append, ih1, hm]
      constructor
      · rintro (⟨h1, h2, j, y, hj, hy, hp⟩ | ⟨n, h1, h2, rfl, h3, _⟩)
        · exact ⟨h1, h2, j, y, by omega, hy, hp⟩
        · exact ⟨by rw [len_take h2]; exact h1, h3, i, x, by omega, hx, List.take_prefix _ _⟩
      · rintro ⟨h1, h2, j, y, hj, hy, hp⟩
        by_cases he : ∃ j y, j < i ∧ rows[j]? = some y ∧ p <+: y
        · exact .inl ⟨h1, h2, he⟩
        · have hji : j = i := by
            rcases Nat.lt_or_ge j i with h | h
            · exact absurd ⟨j, y, h, hy, hp⟩ he
            · omega
          subst hji
          rw [hx] at hy
          obtain rfl := Option.some.inj hy
          have hpl := hp.length_le
          have ep : p = x.take p.length := List.prefix_iff_eq_take.1 hp
          exact .inr ⟨p.length, h1, hpl, ep, h2, fun j y hj hy hpy => he ⟨j, y, hj, hy, hpy⟩⟩
    · rw [List.nodup_append]
      refine ⟨ih2, begs_nodup hx, ?_⟩
      rintro a ha b hb rfl
      obtain ⟨_, _, j, y, hj, hy, hp⟩ := (ih1 a).1 ha
      obtain ⟨_, _, _, _, _, h⟩ := (hm a).1 hb
      exact h j y hj hy hp
/-- A pattern's row, as the reference has it: each piece behind a slash. -/
def rowP (l : List Pc) : List Nat := symTail l
theorem rowP_pat {l : List Pc} (h : l ≠ []) : rowP l = 47 :: symPat l := by
  cases l with
  | nil => exact absurd rfl h
  | cons p l => rfl
theorem node_slash {W : List (List Nat)} {p : List Nat} (hp : p ≠ []) : NodeP (W.map (47 :: ·)) (47 :: p) ↔ NodeP W p := by
  have hm : ∀ y, 47 :: y ∈ W.map (47 :: ·) ↔ y ∈ W := fun y => by
    rw [List.mem_map]
    constructor
    · rintro ⟨z, hz, e⟩
      obtain rfl := (List.cons.inj e).2
      exact hz
    · intro h; exact ⟨y, h, rfl⟩
  have hex : ∀ q, (∃ x ∈ W.map (47 :: ·), 47 :: q <+: x) ↔ ∃ x ∈ W, q <+: x := fun q => by
    constructor
    · rintro ⟨x, hx, h⟩
      obtain ⟨y, hy, rfl⟩ := List.mem_map.1 hx
      exact ⟨y, hy, (List.cons_prefix_cons.1 h).2⟩
    · rintro ⟨y, hy, h⟩
      exact ⟨47 :: y, (hm y).2 hy, List.cons_prefix_cons.2 ⟨rfl, h⟩⟩
  unfold NodeP
  simp only [List.cons_append, hm, hex]
  constructor
  · rintro ⟨_, h1, h2⟩
    refine ⟨hp, h1, ?_⟩
    rcases h2 with h | ⟨q, c, hc, h⟩ | h | h
    · exact .inl h
    · refine .inr (.inl ?_)
      cases q with
      | nil =>
        have := (List.cons.inj h).2
        exact absurd this hp
      | cons a q => exact ⟨q, c, hc, (List.cons.inj h).2⟩
    · exact .inr (.inr (.inl h))
    · exact .inr (.inr (.inr h))
  · rintro ⟨_, h1, h2⟩
    refine ⟨by simp, h1, ?_⟩
    rcases h2 with h | ⟨q, c, hc, rfl⟩ | h | h
    · exact .inl h
    · exact .inr (.inl ⟨47 :: q, c, hc, rfl⟩)
    · exact .inr (.inr (.inl h))
    · exact .inr (.inr (.inr h))
/-- THE REFERENCE COUNTS THE TREE'S NODES. -/
theorem nodes_ref (ls : List (List Pc)) (h : ∀ l ∈ ls, l ≠ [] ∧ ∀ p ∈ l, p.1 = 0 ∨ p.1 = 1 ∨ p.1 = 2) : nodesR (ls.map rowP) = cntT (buildP (meas (waysP ls) + 1) (waysP ls)) := by
  have hn := build_nodes (meas (waysP ls) + 1) (waysP ls) (Nat.lt_succ_self _) (ways_wf fun l hl => (h l hl).2) (ways_alt ls)
  have hs : ∀ y, y ∈ syms (waysP ls) ↔ y ∈ ls.map symPat := fun y => by
    rw [mem_syms, List.mem_map]
    constructor
    · rintro ⟨x, hx, rfl⟩
      obtain ⟨l, hl, e, _⟩ := waysGo_mem hx
      exact ⟨l, hl, by rw [e, sym_steps (h l hl).2]⟩
    · rintro ⟨l, hl, rfl⟩
      obtain ⟨k, hk, rfl⟩ := List.getElem_of_mem hl
      have key : ∀ (ls : List (List Pc)) (k n : Nat) (hk : k < ls.length), (n + k, stepsP ls[k]) ∈ waysGo n ls := fun ls => by
        induction ls with
        | nil => intro k n hk; simp at hk
        | cons a ls ih =>
          intro k n hk
          have e : waysGo n (a :: ls) = (n, stepsP a) :: waysGo (n + 1) ls := rfl
          rw [e]
          cases k with
          | zero => exact List.mem_cons_self ..
          | succ k =>
            have := ih k (n + 1) (by simpa using hk)
            rw [show n + (k + 1) = n + 1 + k by omega]
            exact List.mem_cons_of_mem _ this
      exact ⟨_, key ls k 0 hk, sym_steps (h _ hl).2⟩
  have hN : ∀ p, NodeP (syms (waysP ls)) p ↔ NodeP (ls.map symPat) p := fun p => by
    unfold NodeP
    simp only [hs]
  obtain ⟨p1, p2⟩ := hn
  have hrows : ls.map rowP = (ls.map symPat).map (47 :: ·) := by
    rw [List.map_map]
    exact List.map_congr_left fun l hl => rowP_pat (h l hl).1
  unfold nodesR
  rw [totN_len, ← paths_length]
  obtain ⟨b1, b2⟩ := begsTo_spec (ls.map rowP) _ (Nat.le_refl _)
  have key : ∀ p, p ∈ begsTo (ls.map rowP) (ls.map rowP).length ↔ ∃ q, p = 47 :: q ∧ q ∈ pathsT (buildP (meas (waysP ls) + 1) (waysP ls)) ∧ q ≠ [] := fun p => by
    rw [b1]
    constructor
    · rintro ⟨h1, h2, j, y, _, hy, hp⟩
      rw [hrows] at h2 hy
      have hym := List.mem_of_getElem? hy
      obtain ⟨z, hz, rfl⟩ := List.mem_map.1 hym
      cases p with
      | nil => simp at h1
      | cons a q =>
        obtain ⟨rfl, hq⟩ := List.cons_prefix_cons.1 hp
        have hq0 : q ≠ [] := fun e => by rw [e] at h1; simp at h1
        exact ⟨q, rfl, (p1 q).2 (.inr ((hN q).2 ((node_slash hq0).1 h2))), hq0⟩
    · rintro ⟨q, rfl, hq, hq0⟩
      have hnq : NodeP (ls.map symPat) q := (hN q).1 (((p1 q).1 hq).resolve_left hq0)
      have h2 : NodeP (ls.map rowP) (47 :: q) := by rw [hrows]; exact (node_slash hq0).2 hnq
      refine ⟨?_, h2, ?_⟩
      · cases q with
        | nil => exact absurd rfl hq0
        | cons a q => simp
      · obtain ⟨_, ⟨x, hx, hp⟩, _⟩ := h2
        obtain ⟨j, hj, e⟩ := List.getElem_of_mem hx
        exact ⟨j, x, hj, by rw [List.getElem?_eq_getElem hj, e], hp⟩
  have hdec : pathsT (buildP (meas (waysP ls) + 1) (waysP ls)) = [] :: (pathsT (buildP (meas (waysP ls) + 1) (waysP ls))).tail := rfl
  have hnd := p2
  rw [hdec] at hnd
  obtain ⟨t1, t2⟩ := List.nodup_cons.1 hnd
  have htm : ∀ q, q ∈ (pathsT (buildP (meas (waysP ls) + 1) (waysP ls))).tail ↔ q ∈ pathsT (buildP (meas (waysP ls) + 1) (waysP ls)) ∧ q ≠ [] := fun q => by
    constructor
    · intro hq
      exact ⟨List.mem_of_mem_tail hq, fun e => t1 (e ▸ hq)⟩
    · rintro ⟨hq, h0⟩
      rw [hdec] at hq
      exact (List.mem_cons.1 hq).resolve_left h0
  have l1 : (begsTo (ls.map rowP) (ls.map rowP).length).length ≤ ((pathsT (buildP (meas (waysP ls) + 1) (waysP ls))).tail.map (47 :: ·)).length := nodup_len _ _ b2 fun p hp => by
    obtain ⟨q, rfl, hq, h0⟩ := (key p).1 hp
    exact List.mem_map.2 ⟨q, (htm q).2 ⟨hq, h0⟩, rfl⟩
  have l2 : ((pathsT (buildP (meas (waysP ls) + 1) (waysP ls))).tail.map (47 :: ·)).length ≤ (begsTo (ls.map rowP) (ls.map rowP).length).length := nodup_len _ _ (List.Pairwise.map _ (fun a b hab e => hab (List.cons.inj e).2) t2) fun p hp => by
    obtain ⟨q, hq, rfl⟩ := List.mem_map.1 hp
    exact (key _).2 ⟨q, rfl, (htm q).1 hq⟩
  have l3 : (pathsT (buildP (meas (waysP ls) + 1) (waysP ls))).length = 1 + (pathsT (buildP (meas (waysP ls) + 1) (waysP ls))).tail.length := by
    conv => lhs; rw [hdec]
    rw [List.length_cons]
    omega
  simp only [List.length_map] at l1 l2 ⊢
  omega
end Go.Proofs.Ytkhgnfofinpofaa
