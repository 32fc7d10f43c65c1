/-
  Two trees and two rows of texts beside one another: what RadixOrder carries; what a tree keeps, as texts.
-/
import Derived.Test.YtkhgnfofinpofaaRxIt
namespace Go.Proofs.Ytkhgnfofinpofaa
open Go.RowKit Go.Shelf Go.Lib

theorem sumO_take {l : List ByteArray} {k : Nat} {x : ByteArray} (h : l[k]? = some x) : sumS (l.take (k + 1)) + (k + 1) = sumS (l.take k) + k + (x.size + 1) := by
  rw [take_snoc h, sumS_append, sumS_cons]
  show _ + (x.size + 0) + _ = _
  omega
theorem sumO_take_le (l : List ByteArray) (k : Nat) : sumS (l.take k) ≤ sumS l := by
  have h := sumS_append (l.take k) (l.drop k)
  rw [List.take_append_drop] at h
  omega
/-- The texts of what is kept. -/
def txE (es : List En) : List ByteArray := es.map (·.1)
theorem txE_length (es : List En) : (txE es).length = es.length := List.length_map _
theorem txE_ins (es : List En) (x : En) : (txE (insE es x)).Perm (txE es ++ [x.1]) := by
  have h : (insE es x).Perm (es ++ [x]) := by
    unfold insE
    refine (List.perm_middle).trans ?_
    rw [List.take_append_drop]
    exact (List.perm_append_singleton x es).symm
  have h2 := h.map (fun y : En => y.1)
  rw [List.map_append] at h2
  exact h2
theorem txE_erase {es : List En} {i : Nat} {x : En} (h : es[i]? = some x) : (txE es).Perm (x.1 :: txE (es.eraseIdx i)) := by
  obtain ⟨hi, rfl⟩ := List.getElem?_eq_some_iff.1 h
  have h3 : es.Perm (es[i] :: es.eraseIdx i) := by
    have e : es.take i ++ es[i] :: es.drop (i + 1) = es := by rw [← List.drop_eq_getElem_cons hi, List.take_append_drop]
    rw [List.eraseIdx_eq_take_drop_succ]
    exact (e ▸ (List.perm_middle (a := es[i]) (l₁ := es.take i) (l₂ := es.drop (i + 1))) : _)
  exact h3.map (fun y : En => y.1)
/-- Texts that are patterns, no two of them alike. -/
def ApT (ks : List ByteArray) : Prop := (∀ s ∈ ks, (splitP s).2.2 = true) ∧ ks.Pairwise fun s t => ordP (splitP s).1 (splitP t).1 ≠ 0
theorem apT_of {es : List En} (h : GoodE es) : ApT (txE es) := by
  refine ⟨fun s hs => ?_, ?_⟩
  · obtain ⟨x, hx, rfl⟩ := List.mem_map.1 hs
    rw [h.pcs x hx]
  · unfold txE
    rw [List.pairwise_map]
    have h2 : es.Pairwise fun x y => ordP x.2.2.1 y.2.2.1 < 0 := h.sortE
    refine List.Pairwise.imp_of_mem (fun hx hy hlt => ?_) h2
    rename_i x y
    rw [h.pcs x hx, h.pcs y hy]
    show ordP x.2.2.1 y.2.2.1 ≠ 0
    omega
theorem ApT.perm {a b : List ByteArray} (h : ApT a) (hp : a.Perm b) : ApT b :=
  ⟨fun s hs => h.1 s (hp.mem_iff.2 hs), (hp.pairwise_iff (fun {x y} hxy => by rw [ordP_anti]; omega)).1 h.2⟩
theorem sortT_of {es : List En} (h : GoodE es) : (txE es).Pairwise fun s t => ordP (splitP s).1 (splitP t).1 < 0 := by
  unfold txE
  rw [List.pairwise_map]
  have h2 : es.Pairwise fun x y => ordP x.2.2.1 y.2.2.1 < 0 := h.sortE
  refine List.Pairwise.imp_of_mem (fun hx hy hlt => ?_) h2
  rename_i x y
  rw [h.pcs x hx, h.pcs y hy]
  exact hlt
theorem perm_sort {R : ByteArray → ByteArray → Prop} (hn : ∀ a b, R a b → R b a → False) : ∀ {a b : List ByteArray}, a.Perm b → a.Pairwise R → b.Pairwise R → a = b
  | [], b, h, _, _ => (List.nil_perm.1 h).symm
  | x :: a, [], h, _, _ => by have := h.length_eq; simp at this
  | x :: a, y :: b, h, h1, h2 => by
    obtain ⟨p1, p2⟩ := List.pairwise_cons.1 h1
    obtain ⟨q1, q2⟩ := List.pairwise_cons.1 h2
    have hxy : x = y := by
      rcases List.mem_cons.1 (h.mem_iff.1 (List.mem_cons_self (a := x) (l := a))) with e | hx
      · exact e
      · rcases List.mem_cons.1 (h.mem_iff.2 (List.mem_cons_self (a := y) (l := b))) with e | hy
        · exact e.symm
        · exact (hn x y (p1 y hy) (q1 x hx)).elim
    subst hxy
    rw [perm_sort hn ((List.perm_cons x).1 h) p2 q2]
theorem same_tx {ea eb : List En} (ha : GoodE ea) (hb : GoodE eb) (h : (txE ea).Perm (txE eb)) : txE ea = txE eb :=
  perm_sort (R := fun s t => ordP (splitP s).1 (splitP t).1 < 0) (fun a b h1 h2 => by rw [ordP_anti] at h2; omega) h (sortT_of ha) (sortT_of hb)
theorem pcs_of_tx {es : List En} (h : GoodE es) : pcsE es = (txE es).map fun s => (splitP s).1 := by
  unfold pcsE txE
  rw [List.map_map]
  refine List.map_congr_left fun x hx => ?_
  show x.2.2.1 = (splitP x.1).1
  rw [h.pcs x hx]
theorem nodes_same {ea eb : List En} (ha : GoodE ea) (hb : GoodE eb) (h : txE ea = txE eb) : nodesE ea = nodesE eb := by
  unfold nodesE
  rw [pcs_of_tx ha, pcs_of_tx hb, h]
theorem nodes_nil : nodesE [] = 1 := by
  unfold nodesE
  show cntT (treeP []) = 1
  rw [treeP_nil]
  rfl
theorem keptE_tx (es : List En) : (keptE es).map (·.1) = txE es := by unfold keptE txE; rw [List.map_map]; rfl
/-- Inserting a text that is like none of what is kept. -/
theorem ins_new {es es' : List En} {s : ByteArray} {v code : Int} (h : InsTo es s v code es') (hg : GoodE es) (hs : (splitP s).2.2 = true) (hn : ∀ t ∈ txE es, ordP (splitP t).1 (splitP s).1 ≠ 0) : code = 0 ∧ ∃ loc, es' = insE es (s, loc, (splitP s).1, v) := by
  rcases h with ⟨h1, _⟩ | ⟨_, ⟨y, hy, h2⟩, _⟩ | ⟨_, _, h1, h2⟩
  · rw [hs] at h1; cases h1
  · refine absurd ?_ (hn y.1 (List.mem_map.2 ⟨y, hy, rfl⟩))
    rw [hg.pcs y hy]
    exact h2
  · exact ⟨h1, h2⟩
/-- Taking away a text that is kept. -/
theorem rem_one {es es' : List En} {s : ByteArray} {r : Int × Bool} {ts : List ByteArray} (h : RemTo es s r es') (hp : (txE es).Perm (ts ++ [s])) (hv : ∀ x ∈ es, x.2.2.2 = 2) : r = (2, true) ∧ (txE es').Perm ts ∧ ∀ x ∈ es', x.2.2.2 = 2 := by
  rcases h with ⟨h1, _⟩ | ⟨i, x, h1, h2, rfl, rfl⟩
  · have hm : s ∈ txE es := hp.mem_iff.2 (List.mem_append_right _ (List.mem_singleton.2 rfl))
    obtain ⟨x, hx, hxs⟩ := List.mem_map.1 hm
    have h3 := (List.findIdx?_eq_none_iff.1 h1) x hx
    rw [decide_eq_true hxs] at h3
    cases h3
  · obtain ⟨y, hy, hys, _⟩ := findP_some h1
    rw [h2] at hy
    obtain rfl := Option.some.inj hy
    refine ⟨by rw [hv x (List.mem_of_getElem? h2)], ?_, fun z hz => hv z (List.mem_of_mem_eraseIdx hz)⟩
    have h3 := (txE_erase h2).symm.trans (hp.trans (List.perm_append_singleton s ts))
    rw [hys] at h3
    exact (List.perm_cons s).1 h3
/-- A tree that keeps away from some blocks, all of whose blocks are there. -/
def Ko (V : Nat → Prop) (w0 w : World) (q : Nat) (es : List En) (B : Nat) : Prop := ∃ S, TreeAt S w q es ∧ GoodE es ∧ sumE es ≤ B ∧ w0.heap.size ≤ q ∧ Below w0.heap.size w0 w ∧ (∀ b, S b → b < w.heap.size) ∧ ∀ b, V b → ¬ S b ∧ b ≠ q ∧ b < w.heap.size
section
variable {V : Nat → Prop} {w0 w w' : World} {q B : Nat} {es : List En}
theorem Ko.kv (h : Ko V w0 w q es B) : Kv V w0 w q es B := by
  obtain ⟨S, h1, h2, h3, h4, h5, _, h6⟩ := h
  exact ⟨S, h1, h2, h3, h4, h5, h6⟩
theorem Ko.below (h : Ko V w0 w q es B) (hb : Below w.heap.size w w') : Ko V w0 w' q es B := by
  obtain ⟨S, h1, h2, h3, h4, h5, h7, h6⟩ := h
  exact ⟨S, h1.below hb, h2, h3, h4, h5.trans (hb.mono h5.size), fun b hb2 => Nat.lt_of_lt_of_le (h7 b hb2) hb.size, fun b hb2 => ⟨(h6 b hb2).1, (h6 b hb2).2.1, Nat.lt_of_lt_of_le (h6 b hb2).2.2 hb.size⟩⟩
theorem Ko.more {B' : Nat} (h : Ko V w0 w q es B) (hB : B ≤ B') : Ko V w0 w q es B' := by
  obtain ⟨S, h1, h2, h3, h4, h5, h6⟩ := h
  exact ⟨S, h1, h2, Nat.le_trans h3 hB, h4, h5, h6⟩
/-- What it weighs may be told anew. -/
theorem Ko.tight {B' : Nat} (h : Ko V w0 w q es B) (hB : sumE es ≤ B') : Ko V w0 w q es B' := by
  obtain ⟨S, h1, h2, h3, h4, h5, h6⟩ := h
  exact ⟨S, h1, h2, hB, h4, h5, h6⟩
theorem Ko.turn {q' : Nat} (h : Ko V w0 w q es B) (hq : V q') (ht : Turn q' w w') (hq0 : w0.heap.size ≤ q') : Ko V w0 w' q es B := by
  obtain ⟨S, h1, h2, h3, h4, h5, h7, h6⟩ := h
  exact ⟨S, h1.hold (ht.hold (h6 q' hq).1) (ht.block q h1.lt (fun e => (h6 q' hq).2.1 e.symm)), h2, h3, h4, h5.trans (ht.below hq0 h5.size), fun b hb2 => Nat.lt_of_lt_of_le (h7 b hb2) ht.size, fun b hb2 => ⟨(h6 b hb2).1, (h6 b hb2).2.1, Nat.lt_of_lt_of_le (h6 b hb2).2.2 ht.size⟩⟩
/-- A block that it keeps away from has grown; it may keep away from new blocks. -/
theorem Ko.grown {V' : Nat → Prop} {row : Option Nat} (h : Ko V w0 w q es B) (hg : w.grownBy w' row) (hr : ∀ k, row = some k → V k ∧ w0.heap.size ≤ k) (hV : ∀ b, V' b → (V b ∨ w.heap.size ≤ b) ∧ b < w'.heap.size) : Ko V' w0 w' q es B := by
  obtain ⟨S, h1, h2, h3, h4, h5, h7, h6⟩ := h
  refine ⟨S, h1.hold (Hold.of_grown hg fun b hb => (h6 b (hr b hb).1).1) (hg.block q h1.lt fun e => (h6 q (hr q e.symm).1).2.1 rfl), h2, h3, h4, ?_, fun b hb2 => Nat.lt_of_lt_of_le (h7 b hb2) hg.size, fun b hb2 => ⟨fun hs => ?_, fun e => ?_, (hV b hb2).2⟩⟩
  · exact ⟨hg.os.trans h5.os, hg.tape.trans h5.tape, hg.output.trans h5.output, Nat.le_trans h5.size hg.size, fun k hk => (hg.block k (Nat.lt_of_lt_of_le hk h5.size) (fun e => by have := (hr k e.symm).2; omega)).trans (h5.block k hk)⟩
  · rcases (hV b hb2).1 with hv | hv
    · exact (h6 b hv).1 hs
    · have := h7 b hs; omega
  · rcases (hV b hb2).1 with hv | hv
    · exact (h6 b hv).2.1 e
    · have := h1.lt; omega
theorem Ko.off (h : Ko V w0 w q es B) {b : Nat} (hb : V b) : b < w.heap.size ∧ b ≠ q := h.kv.off hb
end
theorem NewO (w0 w : World) (hb : Below w0.heap.size w0 w) (V : Nat → Prop) (hV : ∀ b, V b → b < w.heap.size) :
    Calls Try.prog 10 #[] w fun e w' => e = .returned (.pointer (some ⟨w.heap.size + 1, 0, none⟩)) ∧ Ko V w0 w' (w.heap.size + 1) [] 0 ∧ Below w.heap.size w w' ∧ w'.heap.size = w.heap.size + 2 :=
  (New_any w).mono fun e w' ⟨h1, h2, h3, h4⟩ => ⟨h1, ⟨_, h2, GoodE.nil, Nat.le_refl _, by have := hb.size; omega, hb.trans (h3.mono hb.size), fun b hb2 => by omega, fun b hb2 => by have := hV b hb2; exact ⟨by omega, by omega, by omega⟩⟩, h3, h4⟩
def GivesInsO (V : Nat → Prop) (w0 w : World) (q : Nat) (es : List En) (B : Nat) (s : ByteArray) (v : Int) (e : Ending) (w' : World) : Prop :=
  ∃ code es', e = .returned (.int .i64 code) ∧ InsTo es s v code es' ∧ Ko V w0 w' q es' (B + (s.size + 1)) ∧ Turn q w w'
theorem InsertO (V : Nat → Prop) (w0 w : World) (q : Nat) (es : List En) (B : Nat) (s : ByteArray) (v : Int) (h : Ko V w0 w q es B) (hB : 3 * (B + (s.size + 1)) ≤ 4194304) :
    Calls Try.prog 12 #[.pointer (some ⟨q, 0, none⟩), .string s, .int .i64 v] w (GivesInsO V w0 w q es B s v) := by
  obtain ⟨S, h1, h2, h3, h4, h5, h7, h6⟩ := h
  have hl := h2.load
  refine (Insert_any S w q es s v h1 h2 (by omega) (by omega)).mono fun e w' hg => ?_
  unfold GivesInsert GivesInsertR at hg
  rcases hg with ⟨g1, g2, g3⟩ | ⟨g1, g2, g3, g4⟩ | ⟨g1, g2, g3, ⟨loc, g4⟩, g5⟩
  · exact ⟨130, es, g2, .inl ⟨g1, rfl, rfl⟩, (Ko.below ⟨S, h1, h2, h3, h4, h5, h7, h6⟩ g3).more (Nat.le_add_right _ _), Turn.of_below g3⟩
  · exact ⟨131, es, g3, .inr (.inl ⟨g1, g2, rfl, rfl⟩), (Ko.below ⟨S, h1, h2, h3, h4, h5, h7, h6⟩ g4).more (Nat.le_add_right _ _), Turn.of_below g4⟩
  · exact ⟨0, _, g3, .inr (.inr ⟨g1, g2, rfl, loc, rfl⟩), ⟨_, g4, h2.ins g1 g2, by rw [sumE_ins]; show sumE es + (s.size + 1) ≤ B + (s.size + 1); omega, h4, h5.trans (g5.below h4 h5.size), fun b hb => by rcases hb with k | ⟨_, k⟩; exact Nat.lt_of_lt_of_le (h7 b k) g5.size; exact k, fun b hb => ⟨by rintro (k | ⟨k, _⟩); exact (h6 b hb).1 k; have := (h6 b hb).2.2; omega, (h6 b hb).2.1, Nat.lt_of_lt_of_le (h6 b hb).2.2 g5.size⟩⟩, g5⟩
def GivesRemO (V : Nat → Prop) (w0 w : World) (q : Nat) (es : List En) (B : Nat) (s : ByteArray) (e : Ending) (w' : World) : Prop :=
  ∃ r es', e = .returned (.tuple #[.int .i64 r.1, .bool r.2]) ∧ RemTo es s r es' ∧ Ko V w0 w' q es' B ∧ Turn q w w'
theorem RemoveO (V : Nat → Prop) (w0 w : World) (q : Nat) (es : List En) (B : Nat) (s : ByteArray) (h : Ko V w0 w q es B) (hB : 3 * B ≤ 4194304) :
    Calls Try.prog 25 #[.pointer (some ⟨q, 0, none⟩), .string s] w (GivesRemO V w0 w q es B s) := by
  obtain ⟨S, h1, h2, h3, h4, h5, h7, h6⟩ := h
  have hl := h2.load
  refine (Remove_any S w q es s h1 h2 (by omega)).mono fun e w' hg => ?_
  rcases hg with ⟨g1, g2, g3⟩ | ⟨i, x, g1, g2, g3, g4, g5⟩
  · exact ⟨(0, false), es, g2, .inl ⟨g1, rfl, rfl⟩, Ko.below ⟨S, h1, h2, h3, h4, h5, h7, h6⟩ g3, Turn.of_below g3⟩
  · exact ⟨(x.2.2.2, true), _, g3, .inr ⟨i, x, g1, g2, rfl, rfl⟩, ⟨_, g4, remE_sort h2 i, Nat.le_trans (sumE_sub (List.eraseIdx_sublist _ _)) h3, h4, h5.trans (g5.below h4 h5.size), fun b hb => by rcases hb with k | ⟨_, k⟩; exact Nat.lt_of_lt_of_le (h7 b k) g5.size; exact k, fun b hb => ⟨by rintro (k | ⟨k, _⟩); exact (h6 b hb).1 k; have := (h6 b hb).2.2; omega, (h6 b hb).2.1, Nat.lt_of_lt_of_le (h6 b hb).2.2 g5.size⟩⟩, g5⟩
/-- Two trees and two rows of texts, each apart from the others. -/
structure Ost (w0 w : World) (qa qb m : Nat) (ea eb : List En) (Ba Bb : Nat) (kv xv : Value) (ks xs : List ByteArray) : Prop where
  a : Ko (fun b => b = qb ∨ kv.ownBlock = some b ∨ xv.ownBlock = some b) w0 w qa ea Ba
  b : Ko (fun b => b = qa ∨ kv.ownBlock = some b ∨ xv.ownBlock = some b) w0 w qb eb Bb
  k : w.ownsRow m 9 1 kv ks.length (ks.map .string)
  x : w.ownsRow m 9 1 xv xs.length (xs.map .string)
  ne : ∀ g, kv.ownBlock = some g → xv.ownBlock ≠ some g
  m0 : w0.heap.size ≤ m
section
variable {w0 w w' : World} {qa qb m : Nat} {ea eb ea' : List En} {Ba Bb Ba' : Nat} {kv xv : Value} {ks xs : List ByteArray}
theorem Ost.swapT (h : Ost w0 w qa qb m ea eb Ba Bb kv xv ks xs) : Ost w0 w qb qa m eb ea Bb Ba kv xv ks xs := ⟨h.b, h.a, h.k, h.x, h.ne, h.m0⟩
theorem Ko.sub {V V' : Nat → Prop} {q B : Nat} {es : List En} (h : Ko V w0 w q es B) (hv : ∀ b, V' b → V b) : Ko V' w0 w q es B := by
  obtain ⟨S, h1, h2, h3, h4, h5, h7, h6⟩ := h
  exact ⟨S, h1, h2, h3, h4, h5, h7, fun b hb => h6 b (hv b hb)⟩
theorem Ost.swapR (h : Ost w0 w qa qb m ea eb Ba Bb kv xv ks xs) : Ost w0 w qa qb m ea eb Ba Bb xv kv xs ks :=
  ⟨h.a.sub fun b hb => by rcases hb with h | h | h; exact .inl h; exact .inr (.inr h); exact .inr (.inl h), h.b.sub fun b hb => by rcases hb with h | h | h; exact .inl h; exact .inr (.inr h); exact .inr (.inl h), h.x, h.k, fun g hg hk => h.ne g hk hg, h.m0⟩
theorem Ost.below (h : Ost w0 w qa qb m ea eb Ba Bb kv xv ks xs) (hb : Below w.heap.size w w') : Ost w0 w' qa qb m ea eb Ba Bb kv xv ks xs := ⟨h.a.below hb, h.b.below hb, own_below h.k hb, own_below h.x hb, h.ne, h.m0⟩
theorem Turn.row {q base n sz : Nat} {e : TypeId} {v : Value} {vs : List Value} (ht : Turn q w w') (h : w.ownsRow base e sz v n vs) (hq : v.ownBlock ≠ some q) : w'.ownsRow base e sz v n vs :=
  h.kept (row := some q) ⟨ht.os, ht.tape, ht.output, ht.size, fun k hk hne => ht.block k hk (fun e => hne (by rw [e]))⟩ (.inr hq)
/-- The first tree has turned. -/
theorem Ost.turnA (h : Ost w0 w qa qb m ea eb Ba Bb kv xv ks xs) (ht : Turn qa w w') (ha : Ko (fun b => b = qb ∨ kv.ownBlock = some b ∨ xv.ownBlock = some b) w0 w' qa ea' Ba') : Ost w0 w' qa qb m ea' eb Ba' Bb kv xv ks xs := by
  obtain ⟨S, _, _, _, h4, _⟩ := h.a
  exact ⟨ha, h.b.turn (.inl rfl) ht h4, ht.row h.k (fun e => (h.a.off (.inr (.inl e))).2 rfl), ht.row h.x (fun e => (h.a.off (.inr (.inr e))).2 rfl), h.ne, h.m0⟩
/-- The first row has grown. -/
theorem Ost.growK {kv' : Value} {s : ByteArray} (h : Ost w0 w qa qb m ea eb Ba Bb kv xv ks xs) (hg : w.grownBy w' kv.ownBlock) (ho : w'.ownsRow m 9 1 kv' (ks.length + 1) (ks.map .string ++ [.string s])) (hat : kv'.ownBlock = kv.ownBlock ∨ kv'.ownBlock = some w.heap.size) : Ost w0 w' qa qb m ea eb Ba Bb kv' xv (ks ++ [s]) xs := by
  have hlt := ho.lt
  have hxl := h.x.lt
  have hqa : qa < w.heap.size := h.a.kv.kp.lt
  have hqb : qb < w.heap.size := h.b.kv.kp.lt
  have hsz := hg.size
  have hm := h.m0
  have hr : ∀ k, kv.ownBlock = some k → w0.heap.size ≤ k := fun k hk => by have := (h.k.lt k hk).1; omega
  have hV : ∀ q', q' < w.heap.size → ∀ b, (b = q' ∨ kv'.ownBlock = some b ∨ xv.ownBlock = some b) → ((b = q' ∨ kv.ownBlock = some b ∨ xv.ownBlock = some b) ∨ w.heap.size ≤ b) ∧ b < w'.heap.size := fun q' hq' b hb => by
    rcases hb with rfl | hb | hb
    · exact ⟨.inl (.inl rfl), by omega⟩
    · refine ⟨?_, (hlt b hb).2⟩
      rcases hat with e | e
      · exact .inl (.inr (.inl (by rw [← e]; exact hb)))
      · rw [e] at hb
        have := Option.some.inj hb
        exact .inr (by omega)
    · exact ⟨.inl (.inr (.inr hb)), by have := (hxl b hb).2; omega⟩
  refine ⟨h.a.grown hg (fun k hk => ⟨.inr (.inl hk), hr k hk⟩) (hV qb hqb), h.b.grown hg (fun k hk => ⟨.inr (.inl hk), hr k hk⟩) (hV qa hqa), by simpa using ho, h.x.kept hg ?_, fun g hg2 hx2 => ?_, hm⟩
  · cases hx : xv.ownBlock with
    | none => exact .inl rfl
    | some g => exact .inr fun e => h.ne g e.symm hx
  · rcases hat with e | e
    · exact h.ne g (by rw [← e]; exact hg2) hx2
    · rw [e] at hg2
      have := Option.some.inj hg2
      have := (hxl g hx2).2
      omega
end
theorem Ko.away {V V' : Nat → Prop} {w0 w w' : World} {q B : Nat} {es : List En} (h : Ko V w0 w q es B) (hb : Below w.heap.size w w') (hV : ∀ b, V' b → (V b ∨ w.heap.size ≤ b) ∧ b < w'.heap.size) : Ko V' w0 w' q es B :=
  h.grown (row := none) ⟨hb.os, hb.tape, hb.output, hb.size, fun k hk _ => hb.block k hk⟩ (fun k hk => by cases hk) hV
theorem Ost.start {w0 w1 w2 : World} {qa qb : Nat} (hA : Ko (fun _ => False) w0 w1 qa [] 0) (hB : Ko (fun b => b = qa) w0 w2 qb [] 0) (hb : Below w1.heap.size w1 w2) (hq : w1.heap.size ≤ qb) : Ost w0 w2 qa qb w2.heap.size [] [] 0 0 (.slice none 0 0) (.slice none 0 0) [] [] := by
  have hlt := hB.kv.kp.lt
  refine ⟨hA.away hb fun b h => ?_, hB.sub fun b h => ?_, World.ownsRow_nil _ _ _ _, World.ownsRow_nil _ _ _ _, fun g h => ?_, hB.kv.kp.base.size⟩
  · rcases h with rfl | h | h
    · exact ⟨.inr hq, hlt⟩
    · cases h
    · cases h
  · rcases h with rfl | h | h
    · rfl
    · cases h
    · cases h
  · cases h
/-- A list begins. -/
theorem Ost.newK {w0 w : World} {qa qb m : Nat} {ea eb : List En} {Ba Bb : Nat} {xv : Value} {xs : List ByteArray} (h : Ost w0 w qa qb m ea eb Ba Bb (.slice none 0 0) xv [] xs) (hm : m ≤ w.heap.size) :
    Ost w0 (w.alloc (.cells #[] 9)) qa qb m ea eb Ba Bb (.slice (some ⟨w.heap.size, 0, none⟩) 0 0) xv [] xs := by
  have hb := (Below.refl w.heap.size w).alloc (Nat.le_refl _) (.cells #[] 9)
  have hV : ∀ q', q' < w.heap.size → ∀ b, (b = q' ∨ (Value.slice (some ⟨w.heap.size, 0, none⟩) 0 0).ownBlock = some b ∨ xv.ownBlock = some b) → ((b = q' ∨ (Value.slice none 0 0).ownBlock = some b ∨ xv.ownBlock = some b) ∨ w.heap.size ≤ b) ∧ b < (w.alloc (.cells #[] 9)).heap.size := fun q' hq b hb2 => by
    rw [World.size_alloc]
    rcases hb2 with rfl | hb2 | hb2
    · exact ⟨.inl (.inl rfl), by omega⟩
    · have e : w.heap.size = b := by simpa [Value.ownBlock] using hb2
      exact ⟨.inr (by omega), by omega⟩
    · exact ⟨.inl (.inr (.inr hb2)), by have := (h.x.lt b hb2).2; omega⟩
  refine ⟨h.a.away hb (hV qb h.b.kv.kp.lt), h.b.away hb (hV qa h.a.kv.kp.lt), ?_, own_below h.x hb, fun g hg hx => ?_, h.m0⟩
  · exact own_less (World.ownsRow_lit w #[] 0 (Nat.le_refl _) (by unfold maxLen; omega) rfl) hm
  · have e : w.heap.size = g := by simpa [Value.ownBlock] using hg
    have := (h.x.lt g hx).2
    omega
theorem Ost.tightA {w0 w : World} {qa qb m : Nat} {ea eb : List En} {Ba Bb B' : Nat} {kv xv : Value} {ks xs : List ByteArray} (h : Ost w0 w qa qb m ea eb Ba Bb kv xv ks xs) (hB : sumE ea ≤ B') : Ost w0 w qa qb m ea eb B' Bb kv xv ks xs := ⟨h.a.tight hB, h.b, h.k, h.x, h.ne, h.m0⟩
/-- What texts weigh. -/
def sumT (ts : List ByteArray) : Nat := (ts.map fun s => s.size + 1).sum
theorem sumT_E (es : List En) : sumE es = sumT (txE es) := by
  unfold sumE sumT txE
  rw [List.map_map]
  rfl
theorem sumT_perm {a b : List ByteArray} (h : a.Perm b) : sumT a = sumT b := (h.map _).sum_nat
theorem sumT_drop {ts : List ByteArray} {k : Nat} {s : ByteArray} (h : ts[k]? = some s) : sumT (ts.drop k) = s.size + 1 + sumT (ts.drop (k + 1)) := by
  obtain ⟨hk, rfl⟩ := List.getElem?_eq_some_iff.1 h
  rw [List.drop_eq_getElem_cons hk]
  unfold sumT
  rw [List.map_cons, List.sum_cons]
theorem sumT_drop_le (ts : List ByteArray) (k : Nat) : sumT (ts.drop k) ≤ sumT ts := by
  have h := List.take_append_drop k ts
  have h2 : sumT ts = sumT (ts.take k) + sumT (ts.drop k) := by
    conv => lhs; rw [← h]
    unfold sumT
    rw [List.map_append, List.sum_append]
  omega
theorem apT_drop {ks : List ByteArray} (h : ApT ks) {j : Nat} {s : ByteArray} (hj : ks[j]? = some s) : (splitP s).2.2 = true ∧ ∀ t ∈ ks.drop (j + 1), ordP (splitP t).1 (splitP s).1 ≠ 0 := by
  obtain ⟨hk, rfl⟩ := List.getElem?_eq_some_iff.1 hj
  refine ⟨h.1 _ (List.getElem_mem hk), fun t ht => ?_⟩
  obtain ⟨i, hi, rfl⟩ := List.getElem_of_mem ht
  rw [List.getElem_drop]
  have := List.pairwise_iff_getElem.1 h.2 j (j + 1 + i) hk (by rw [List.length_drop] at hi; omega) (by omega)
  rw [ordP_anti]
  omega
/-- But for two blocks everything lies as it lay. -/
structure Turn2 (p q : Nat) (w w' : World) : Prop where
  os : w'.os = w.os
  tape : w'.tape = w.tape
  output : w'.output = w.output
  size : w.heap.size ≤ w'.heap.size
  block : ∀ k, k < w.heap.size → k ≠ p → k ≠ q → w'.heap[k]? = w.heap[k]?
theorem Turn2.refl (p q : Nat) (w : World) : Turn2 p q w w := ⟨rfl, rfl, rfl, Nat.le_refl _, fun _ _ _ _ => rfl⟩
theorem Turn2.hold {p q : Nat} {w w' : World} (h : Turn2 p q w w') {S : Nat → Prop} (hS : ∀ b, S b → b ≠ p ∧ b ≠ q) : Hold S w w' := ⟨h.size, fun b hb hl => h.block b hl (hS b hb).1 (hS b hb).2⟩
theorem Turn2.below {p q n : Nat} {w w' : World} (h : Turn2 p q w w') (hp : n ≤ p) (hq : n ≤ q) (hn : n ≤ w.heap.size) : Below n w w' := ⟨h.os, h.tape, h.output, h.size, fun k hk => h.block k (by omega) (by omega) (by omega)⟩
theorem Turn2.row {p q base n sz : Nat} {w w' : World} {e : TypeId} {v : Value} {vs : List Value} (ht : Turn2 p q w w') (h : w.ownsRow base e sz v n vs) (hp : v.ownBlock ≠ some p) (hq : v.ownBlock ≠ some q) : w'.ownsRow base e sz v n vs := by
  refine ⟨h.1, ?_⟩
  rcases h.2 with hn | ⟨g, cap, cur, rfl, hb, hg, rest⟩
  · exact .inl hn
  · refine .inr ⟨g, cap, cur, rfl, hb, ?_, rest⟩
    rw [ht.block g (Array.getElem?_eq_some_iff.1 hg).1 (fun e => hp (by rw [← e]; rfl)) (fun e => hq (by rw [← e]; rfl))]
    exact hg
/-- A box that holds a list of texts that grows. -/
def OrJ (w6 : World) (X n : Nat) (ts : List ByteArray) (W : World) : Prop :=
  ∃ v, Boxed W X 22 v ∧ W.ownsRow n 9 1 v ts.length (ts.map .string) ∧ (∀ b, v.ownBlock = some b → b = n ∨ w6.heap.size ≤ b) ∧ Turn2 X n w6 W
theorem orJ_push {w6 W w1 : World} {X n : Nat} {ts : List ByteArray} {s : ByteArray} {v v' : Value} {tmp : Obj} (_hX : X < w6.heap.size) (hv : Boxed W X 22 v) (hrow : W.ownsRow n 9 1 v ts.length (ts.map .string)) (hat : ∀ b, v.ownBlock = some b → b = n ∨ w6.heap.size ≤ b) (ht : Turn2 X n w6 W)
    (hown : w1.ownsRow n 9 1 v' (ts.length + 1) (ts.map .string ++ [.string s])) (hgrow : (W.alloc tmp).grownBy w1 v.ownBlock) (alt : v'.ownBlock = v.ownBlock ∨ v'.ownBlock = some (W.heap.size + 1)) :
    Boxed w1 X 22 v ∧ KeepsOthers W (w1.setCell ⟨X, 0, none⟩ v') ∧ (∀ S : Nat → Prop, (∀ b, S b → b < w6.heap.size ∧ b ≠ X ∧ b ≠ n) → Hold S W (w1.setCell ⟨X, 0, none⟩ v')) ∧ OrJ w6 X n (ts ++ [s]) (w1.setCell ⟨X, 0, none⟩ v') := by
  have hne : 22 ≠ 9 := by decide
  have hv1 : Boxed w1 X 22 v := (hv.alloc tmp).kept hgrow (hv.not_row hne hrow)
  have hsz : W.heap.size + 1 ≤ w1.heap.size := by have := hgrow.size; rwa [World.size_alloc] at this
  have hs2 : (w1.setCell ⟨X, 0, none⟩ v').heap.size = w1.heap.size := by simp
  have hw6 := ht.size
  have hblk : ∀ k, k < W.heap.size → some k ≠ v.ownBlock → k ≠ X → (w1.setCell ⟨X, 0, none⟩ v').heap[k]? = W.heap[k]? := fun k hk h1 h2 =>
    (Below.heap_setCell w1 ⟨X, 0, none⟩ v' k h2).trans ((hgrow.block k (by rw [World.size_alloc]; omega) h1).trans (Below.heap_alloc W tmp k hk))
  refine ⟨hv1, ?_, fun S hS => ⟨by rw [hs2]; omega, fun b hb hl => hblk b hl (fun e => ?_) (hS b hb).2.1⟩, v', hv1.set v', ?_, fun b hb => ?_, ⟨?_, ?_, ?_, by rw [hs2]; omega, fun k hk h1 h2 => (hblk k (by omega) (fun e => ?_) h1).trans (ht.block k hk h1 h2)⟩⟩
  · refine ((KeepsOthers.alloc W tmp).trans (KeepsOthers.of_grownBy hgrow fun j o ej hj => ?_)).trans (KeepsOthers.setCell _ _ _)
    rcases (hrow.alloc tmp).2 with ⟨rfl, _⟩ | ⟨g, cap, cur, rfl, _, hgb, _⟩
    · simp [Value.ownBlock] at ej
    · obtain rfl : g = j := by simpa [Value.ownBlock] using ej
      rw [hgb] at hj; cases hj; rfl
  · have h1 := hS b hb
    rcases hat b e.symm with h | h
    · exact h1.2.2 h
    · omega
  · have h1 := hown.kept (grownBy_setCell' w1 X v') (.inr (hv1.not_row hne hown).symm)
    rw [List.length_append, List.map_append]
    exact h1
  · rcases alt with e | e
    · exact hat b (by rw [← e]; exact hb)
    · rw [e] at hb
      have := Option.some.inj hb
      exact .inr (by omega)
  · exact hgrow.os.trans ht.os
  · exact hgrow.tape.trans ht.tape
  · exact hgrow.output.trans ht.output
  · rcases hat k e.symm with h | h
    · exact h2 h
    · omega
theorem orJ_own {w6 : World} {X n : Nat} {B : Nat} (hX : X < B) (hB : w6.heap.size ≤ B) {β : Type} (f : β → List ByteArray) : OwnFrom B (fun s W => OrJ w6 X n (f s) W) := fun s W W' row hs hg hr => by
  obtain ⟨v, hv, hrow, hat, ht⟩ := hs
  refine ⟨v, hv.kept hg (fun e => by have := (hr X e.symm).1; omega), hrow.kept hg ?_, hat, ⟨hg.os.trans ht.os, hg.tape.trans ht.tape, hg.output.trans ht.output, Nat.le_trans ht.size hg.size, fun k hk h1 h2 => (hg.block k (Nat.lt_of_lt_of_le hk ht.size) (fun e => by have := (hr k e.symm).1; omega)).trans (ht.block k hk h1 h2)⟩⟩
  rcases hrow.2 with ⟨rfl, _⟩ | ⟨g, cap, cur, rfl, _, hgb, _⟩
  · exact .inl rfl
  · refine .inr fun e' => ?_
    obtain ⟨_, o, ho, hc⟩ := hr g (by simpa [Value.ownBlock] using e'.symm)
    rw [hgb] at ho; cases ho; cases hc
/-- What the document's Insert makes, told by what the tree's made. -/
theorem rIns_as {es es' : List En} {s : ByteArray} {v code : Int} {w w' : World} {A : Option Addr} {c : Nat} {e : Ending} (hto : InsTo es s v code es') (h : GivesKi (splitP s) w A c es s v e w') {S : Nat → Prop} (hr : RowF S w A (flatKV (keptE es))) (hS : ∀ b, w.heap.size ≤ b → S b) :
    ∃ A' c' f, e = .returned (.tuple #[.slice A' es'.length c', .int .i64 f]) ∧ RowF S w' A' (flatKV (keptE es')) ∧ Below w.heap.size w w' := by
  unfold GivesKi at h
  rcases hto with ⟨h1, _, rfl⟩ | ⟨h1, ⟨y, hy, h2⟩, _, rfl⟩ | ⟨h1, h2, _, loc, rfl⟩
  · rcases h with ⟨_, rfl, hb⟩ | ⟨k1, _⟩ | ⟨k1, _⟩
    · exact ⟨_, _, _, rfl, hr.hold (Hold.of_below hb), hb⟩
    · rw [h1] at k1; cases k1
    · rw [h1] at k1; cases k1
  · rcases h with ⟨k1, _⟩ | ⟨_, _, rfl, hb⟩ | ⟨_, k2, _⟩
    · rw [h1] at k1; cases k1
    · exact ⟨_, _, _, rfl, hr.hold (Hold.of_below hb), hb⟩
    · exact absurd h2 (k2 y hy)
  · rcases h with ⟨k1, _⟩ | ⟨_, ⟨y, hy, k2⟩, _⟩ | ⟨_, _, ⟨B, d, rfl, ho⟩, hb⟩
    · rw [h1] at k1; cases k1
    · exact absurd k2 (h2 y hy)
    · have e1 : keptE (insE es (s, loc, (splitP s).1, v)) = insK es (splitP s).1 (s, v) := keptE_ins es _
      have e2 : (insK es (splitP s).1 (s, v)).length = (insE es (s, loc, (splitP s).1, v)).length := by rw [insK_len, insE_length]
      rw [e1, ← e2]
      exact ⟨B, d, _, rfl, RowF.own ho (fun b hb2 => hS b (ho.lt b hb2).1), hb⟩
end Go.Proofs.Ytkhgnfofinpofaa
