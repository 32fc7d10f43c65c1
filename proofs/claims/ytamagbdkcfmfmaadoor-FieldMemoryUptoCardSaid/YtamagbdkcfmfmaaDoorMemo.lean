/-
  A row of rows, all of the call's own: words for slices of slices of fields.
-/
import Derived.Test.YtamagbdkcfmfmaaDoorLawApart
import Derived.Test.YtamagbdkcfmfmaaDoorParseW
import Derived.Test.YtamagbdkcfmfmaaDoorOnw
import Derived.Laws.OwnMore
namespace Go.Proofs.YtamagbdkcfmfmaaDoor
open Go.RowKit Go.Shelf Go.Lib

theorem info_fields : (Tryd.prog.info? 33).map (fun i => (i.zero, i.size, i.bytes)) = some (some (.slice none 0 0), 1, 24) := by kernel_rfl
theorem snoc_get {α : Type} {l : List α} {x p : α} {i : Nat} (h : (l ++ [x])[i]? = some p) : l[i]? = some p ∨ (i = l.length ∧ p = x) := by
  rw [List.getElem?_append] at h
  split at h
  · exact .inl h
  · rename_i hi
    right
    have hj : i - l.length = 0 := by
      rcases Nat.eq_zero_or_pos (i - l.length) with h0 | h0
      · exact h0
      · rw [List.getElem?_eq_none (by simp; omega)] at h; cases h
    rw [hj] at h
    simp at h
    exact ⟨by omega, h.symm⟩
theorem set_get {α : Type} {l : List α} {x p : α} {i j : Nat} (h : (l.set i x)[j]? = some p) : (j = i ∧ p = x) ∨ (j ≠ i ∧ l[j]? = some p) := by
  by_cases e : j = i
  · subst e
    rw [List.getElem?_set] at h
    simp only [if_true] at h
    split at h
    · simp at h; exact .inl ⟨rfl, h.symm⟩
    · cases h
  · rw [List.getElem?_set_ne (Ne.symm e)] at h
    exact .inr ⟨e, h⟩
/-- v is a row of slices (its cells: vals); the lists ps lie each in a row of its own, apart from each other and from v's. -/
structure Tab (w : World) (base : Nat) (v : Value) (vals : List Value) (ps : List (Value × List Fl)) : Prop where
  own : w.ownsRow base 33 1 v vals.length vals
  all : ∀ (i : Nat) p, ps[i]? = some p → w.ownsRow base 24 2 p.1 p.2.length (flat p.2)
  apv : ∀ (i : Nat) p, ps[i]? = some p → Apart v p.1
  app : ∀ (i j : Nat) p q, i ≠ j → ps[i]? = some p → ps[j]? = some q → Apart p.1 q.1
section
variable {w w' : World} {base : Nat} {v : Value} {vals : List Value} {ps : List (Value × List Fl)}
theorem Tab.start (w : World) (base : Nat) : Tab w base (.slice none 0 0) [] [] := ⟨World.ownsRow_nil _ _ _ _, fun _ _ h => by simp at h, fun _ _ h => by simp at h, fun _ _ _ _ _ h => by simp at h⟩
theorem Tab.below (h : Tab w base v vals ps) (hb : Below w.heap.size w w') : Tab w' base v vals ps := ⟨own_below h.own hb, fun i p hp => own_below (h.all i p hp) hb, h.apv, h.app⟩
theorem Tab.alloc (h : Tab w base v vals ps) (o : Obj) : Tab (w.alloc o) base v vals ps := h.below ((Below.refl _ _).alloc (Nat.le_refl _) o)
theorem apart_new {w : World} {base n : Nat} {e1 e2 : TypeId} {s1 s2 n1 n2 : Nat} {a b : Value} {xs ys : List Value} (ha : w.ownsRow base e1 s1 a n1 xs) (hb : w'.ownsRow n e2 s2 b n2 ys) (hn : w.heap.size ≤ n) : Apart a b := fun k hk e => by
  have h1 := own_blt ha k hk
  have h2 := own_lt hb k e
  omega
theorem Tab.pend (h : Tab w base v vals ps) (hb : Below w.heap.size w w') {u : Value} {fs : List Fl} (ho : w'.ownsRow w.heap.size 24 2 u fs.length (flat fs)) (hbase : base ≤ w.heap.size) : Tab w' base v vals (ps ++ [(u, fs)]) := by
  refine ⟨own_below h.own hb, fun i p hp => ?_, fun i p hp => ?_, fun i j p q hij hp hq => ?_⟩
  · rcases snoc_get hp with hp | ⟨_, rfl⟩
    · exact own_below (h.all i p hp) hb
    · exact ho.mono hbase
  · rcases snoc_get hp with hp | ⟨_, rfl⟩
    · exact h.apv i p hp
    · exact apart_new h.own ho (Nat.le_refl _)
  · rcases snoc_get hp with hp | ⟨hi, rfl⟩
    · rcases snoc_get hq with hq | ⟨_, rfl⟩
      · exact h.app i j p q hij hp hq
      · exact apart_new (h.all i p hp) ho (Nat.le_refl _)
    · rcases snoc_get hq with hq | ⟨hj, rfl⟩
      · exact (apart_new (h.all j q hq) ho (Nat.le_refl _)).symm
      · exact absurd (hi.trans hj.symm) hij
theorem Tab.grow (h : Tab w base v vals ps) (hg : w.grownBy w' v.ownBlock) {v' : Value} {vals' : List Value} (ho : w'.ownsRow base 33 1 v' vals'.length vals') (hat : v'.ownBlock = v.ownBlock ∨ v'.ownBlock = some w.heap.size) : Tab w' base v' vals' ps :=
  ⟨ho, fun i p hp => own_other (h.all i p hp) hg (h.apv i p hp), fun i p hp => (h.apv i p hp).grow hat (own_blt (h.all i p hp)), h.app⟩
theorem Tab.turn (h : Tab w base v vals ps) {i : Nat} {u : Value} {fs : List Fl} (hi : ps[i]? = some (u, fs)) (hg : w.grownBy w' u.ownBlock) {u' : Value} {fs' : List Fl} (ho : w'.ownsRow base 24 2 u' fs'.length (flat fs')) (hat : u'.ownBlock = u.ownBlock ∨ u'.ownBlock = some w.heap.size) :
    Tab w' base v vals (ps.set i (u', fs')) := by
  refine ⟨own_other h.own hg (h.apv i _ hi).symm, fun j p hp => ?_, fun j p hp => ?_, fun a b p q hab hp hq => ?_⟩
  · rcases set_get hp with ⟨_, rfl⟩ | ⟨hne, hp⟩
    · exact ho
    · exact own_other (h.all j p hp) hg (h.app i j _ _ (Ne.symm hne) hi hp)
  · rcases set_get hp with ⟨_, rfl⟩ | ⟨_, hp⟩
    · exact ((h.apv i _ hi).symm.grow hat (own_blt h.own)).symm
    · exact h.apv j p hp
  · rcases set_get hp with ⟨ha, rfl⟩ | ⟨ha, hp⟩
    · rcases set_get hq with ⟨hb, rfl⟩ | ⟨hb, hq⟩
      · exact absurd (ha.trans hb.symm) hab
      · exact (h.app i b _ _ (Ne.symm hb) hi hq).grow hat (own_blt (h.all b q hq))
    · rcases set_get hq with ⟨hb, rfl⟩ | ⟨hb, hq⟩
      · exact ((h.app i a _ _ (Ne.symm ha) hi hp).grow hat (own_blt (h.all a p hp))).symm
      · exact h.app a b p q hab hp hq
end
theorem Tab.at_ {w : World} {base : Nat} {v : Value} {vals : List Value} {ps : List (Value × List Fl)} (h : Tab w base v vals ps) {i : Nat} {u : Value} {fs : List Fl} (hp : ps[i]? = some (u, fs)) : w.ownsRow base 24 2 u fs.length (flat fs) := h.all i _ hp
theorem row_newc (w : World) (cs : Array Value) (t : TypeId) {n : Nat} (hn : n = w.heap.size) : Row (w.alloc (.cells cs t)) (some ⟨n, 0, none⟩) cs.toList := fun _ => by
  subst hn
  refine ⟨_, 0, rfl, by simp, fun j v hv => ?_⟩
  rw [Nat.zero_add, World.cell?_alloc_new]
  simpa using hv
theorem parseGo_len (s : ByteArray) : ∀ (n a : Nat) (acc : List Fl), acc.length ≤ 100 → (parseGo s n a acc).1.length ≤ 100
  | 0, _, _, h => h
  | n + 1, a, acc, h => by
    unfold parseGo
    split
    · split
      · simp
      · split
        · simp
        · split
          · exact parseGo_len s n _ _ (by simp; omega)
          · simp
    · exact h
/-- What is written into the lists. -/
def markT : ByteArray := ⟨#[109, 97, 114, 107]⟩
def grownT : ByteArray := ⟨#[103, 114, 111, 119, 110]⟩
def encAt (i : Nat) : ByteArray := Utf8.encode (97 + (i : Int))
def markF (value : ByteArray) (i : Nat) : Fl := (markT, canon (encAt i) ++ value)
theorem markF_eq {value cv : ByteArray} {i : Nat} (h : cv = canon (encAt i)) : markF value i = (markT, cv ++ value) := by rw [h]; rfl
def grownF : Fl := (grownT, ⟨#[]⟩)
theorem enc_size {i : Nat} (h : i < 10) : (Utf8.encode (97 + (i : Int))).size ≤ 4 := by
  have key : ∀ i : Nat, i < 10 → (Utf8.encode (97 + (i : Int))).size ≤ 4 := by decide +kernel
  exact key i h
theorem canon_size (s : ByteArray) : (canon s).size = s.size := by
  unfold canon canonOf
  rw [← size_eq]
  show (ruleTo _ _ _).length = _
  rw [ruleTo_length, size_eq, lower_size]
theorem mark_at {i : Nat} (h : i < 10) : ∃ cv, cv = canon (encAt i) ∧ cv.size ≤ 4 := ⟨_, rfl, by rw [canon_size]; exact enc_size h⟩
theorem rep_of {fs : List Fl} {n : Nat} {x : Fl} (hl : fs.length = n) (h : ∀ j, j < n → fs[j]? = some x) : fs = List.replicate n x := by
  apply List.ext_getElem?
  intro j
  by_cases hj : j < n
  · rw [h j hj, List.getElem?_replicate, if_pos hj]
  · rw [List.getElem?_eq_none (by omega), List.getElem?_replicate, if_neg hj]
/-- The lists: ten of them, the first k marked whole. -/
structure Two (value : ByteArray) (vals : List Value) (ps : List (Value × List Fl)) (k : Nat) : Prop where
  len : ps.length = 10
  map : ps.map (·.1) = vals
  sz : ∀ p ∈ ps, p.2.length ≤ 2000000
  done : ∀ (a : Nat) p, a < k → ps[a]? = some p → p.2 = List.replicate p.2.length (markF value a)
/-- One list, n fields, the first j marked. -/
structure Mid (value : ByteArray) (k n j : Nat) (fs : List Fl) : Prop where
  len : fs.length = n
  done : ∀ b : Nat, b < j → fs[b]? = some (markF value k)
theorem Mid.zero {value : ByteArray} {k n : Nat} {fs : List Fl} (h : fs.length = n) : Mid value k n 0 fs := ⟨h, fun b hb => by omega⟩
theorem Mid.succ {value : ByteArray} {k n j : Nat} {fs : List Fl} (h : Mid value k n j fs) (hj : j < n) : Mid value k n (j + 1) (fs.set j (markF value k)) := by
  refine ⟨by rw [List.length_set]; exact h.len, fun b hb => ?_⟩
  by_cases e : b = j
  · subst e
    rw [List.getElem?_set, if_pos rfl, if_pos (by rw [h.len]; exact hj)]
  · rw [List.getElem?_set_ne (Ne.symm e)]
    exact h.done b (by omega)
theorem Two.set {value : ByteArray} {vals : List Value} {ps : List (Value × List Fl)} {k n : Nat} {u : Value} {fs fs' : List Fl} (h : Two value vals ps k) (hp : ps[k]? = some (u, fs)) (hn : fs.length = n) (hm : Mid value k n n fs') : Two value vals (ps.set k (u, fs')) (k + 1) := by
  have hkl := lt_of_some hp
  refine ⟨by rw [List.length_set]; exact h.len, ?_, fun p hp' => ?_, fun a p ha hp' => ?_⟩
  · rw [List.map_set, h.map]
    apply List.ext_getElem?
    intro j
    by_cases e : k = j
    · subst e
      rw [List.getElem?_set, if_pos rfl, ← h.map, List.length_map, if_pos hkl, List.getElem?_map, hp]
      rfl
    · rw [List.getElem?_set_ne e]
  · obtain ⟨i, hi⟩ := List.getElem?_of_mem hp'
    rcases set_get hi with ⟨_, rfl⟩ | ⟨_, hi⟩
    · simp only
      rw [hm.len, ← hn]
      exact h.sz _ (List.mem_of_getElem? hp)
    · exact h.sz p (List.mem_of_getElem? hi)
  · rcases set_get hp' with ⟨rfl, rfl⟩ | ⟨hne, hp'⟩
    · simp only
      rw [hm.len]
      exact rep_of hm.len hm.done
    · exact h.done a p (by omega) hp'
theorem Two.at_ {value : ByteArray} {vals : List Value} {ps : List (Value × List Fl)} {k j : Nat} (h : Two value vals ps k) (hj : j < 10) : ∃ u fs, ps[j]? = some (u, fs) ∧ vals[j]? = some u ∧ fs.length ≤ 2000000 := by
  obtain ⟨⟨u, fs⟩, hp⟩ := some_of_lt (show j < ps.length by rw [h.len]; exact hj)
  exact ⟨u, fs, hp, by rw [← h.map, List.getElem?_map, hp]; rfl, h.sz _ (List.mem_of_getElem? hp)⟩
theorem set_at {α : Type} {l : List α} {k : Nat} {x y : α} (h : l[k]? = some x) : (l.set k y)[k]? = some y := by
  rw [List.getElem?_set, if_pos rfl, if_pos (lt_of_some h)]
theorem set_same {α : Type} {l : List α} {k : Nat} {x : α} (h : l[k]? = some x) : l.set k x = l := by
  apply List.ext_getElem?
  intro j
  by_cases e : k = j
  · subst e
    rw [set_at h, h]
  · rw [List.getElem?_set_ne e]
theorem own_some {w : World} {base : Nat} {e : TypeId} {size n : Nat} {A : Option Addr} {c : Nat} {xs : List Value} (h : w.ownsRow base e size (.slice A n c) n xs) (hn : 0 < n) : ∃ g, A = some ⟨g, 0, none⟩ ∧ base ≤ g ∧ g < w.heap.size := by
  obtain ⟨g, cap, hv, _, hlt⟩ := h.form hn
  injection hv with hA _ _
  exact ⟨g, hA, (h.lt g (by rw [hA]; rfl)).1, hlt⟩
/-- The lists: ten, all marked, the first k grown by nine. -/
structure Thr (value : ByteArray) (vals : List Value) (ps : List (Value × List Fl)) (k : Nat) : Prop where
  len : ps.length = 10
  map : ps.map (·.1) = vals
  done : ∀ (a : Nat) p, a < k → ps[a]? = some p → ∃ n, n ≤ 2000000 ∧ p.2 = List.replicate n (markF value a) ++ List.replicate 9 grownF
  todo : ∀ (a : Nat) p, k ≤ a → ps[a]? = some p → ∃ n, n ≤ 2000000 ∧ p.2 = List.replicate n (markF value a)
theorem Two.thr {value : ByteArray} {vals : List Value} {ps : List (Value × List Fl)} (h : Two value vals ps 10) : Thr value vals ps 0 :=
  ⟨h.len, h.map, fun a p ha _ => by omega, fun a p _ hp => ⟨p.2.length, h.sz p (List.mem_of_getElem? hp), h.done a p (by have := lt_of_some hp; rw [h.len] at this; exact this) hp⟩⟩
theorem Thr.at_ {value : ByteArray} {vals : List Value} {ps : List (Value × List Fl)} {k : Nat} (h : Thr value vals ps k) {j : Nat} (hj : j < 10) : ∃ u fs, ps[j]? = some (u, fs) ∧ vals[j]? = some u := by
  obtain ⟨⟨u, fs⟩, hp⟩ := some_of_lt (show j < ps.length by rw [h.len]; exact hj)
  exact ⟨u, fs, hp, by rw [← h.map, List.getElem?_map, hp]; rfl⟩
theorem Thr.succ {value : ByteArray} {vals : List Value} {ps : List (Value × List Fl)} {k n : Nat} (h : Thr value vals ps k) (hk : k < 10) (hn : n ≤ 2000000) (v : Value) : Thr value (vals.set k v) (ps.set k (v, List.replicate n (markF value k) ++ List.replicate 9 grownF)) (k + 1) := by
  refine ⟨by rw [List.length_set]; exact h.len, by rw [List.map_set, h.map], fun a p ha hp => ?_, fun a p ha hp => ?_⟩
  · rcases set_get hp with ⟨rfl, rfl⟩ | ⟨hne, hp⟩
    · exact ⟨n, hn, rfl⟩
    · exact h.done a p (by omega) hp
  · rcases set_get hp with ⟨rfl, rfl⟩ | ⟨hne, hp⟩
    · omega
    · exact h.todo a p (by omega) hp
theorem flat_snocG (gs : List Fl) : flat gs ++ flat [grownF] = flat (gs ++ [grownF]) := (flat_append _ _).symm
theorem rep_snoc (x : Fl) (n : Nat) : List.replicate n x ++ [x] = List.replicate (n + 1) x := by rw [List.replicate_succ']
theorem rCanon_at {i : Nat} {cv : ByteArray} (hi : i < 10) (hc : cv = canon (encAt i)) (w : World) : Calls Tryd.prog 25 #[.string (Utf8.encode (97 + (i : Int)))] w fun e w' => e = .returned (.string cv) ∧ Below w.heap.size w w' := by
  rw [hc]
  exact rCanon_any _ w (Nat.le_trans (enc_size hi) (by decide))
theorem conv_enc (i : Nat) (w : World) : (convert 21 9 (.int .i32 (97 + (i : Int)))).run Tryd.prog w = .ok (.string (encAt i)) w := run_convert_int_string w _ _ _ _ (by kernel_rfl) Tryd.underlying9
theorem rCanon_enc {i : Nat} {cv : ByteArray} (hi : i < 10) (hc : cv = canon (encAt i)) (w : World) : Calls Tryd.prog 25 #[.string (encAt i)] w fun e w' => e = .returned (.string cv) ∧ Below w.heap.size w w' := rCanon_at hi hc w
theorem rep_at {n j : Nat} {x y p : Fl} (h : (List.replicate n x ++ List.replicate 9 y)[j]? = some p) : (j < n ∧ p = x) ∨ (n ≤ j ∧ p = y) := by
  rw [List.getElem?_append] at h
  split at h
  · rename_i hj
    rw [List.length_replicate] at hj
    rw [List.getElem?_replicate, if_pos hj] at h
    injection h with h
    exact .inl ⟨hj, h.symm⟩
  · rename_i hj
    rw [List.length_replicate] at hj h
    rw [List.getElem?_replicate] at h
    split at h
    · injection h with h
      exact .inr ⟨by omega, h.symm⟩
    · cases h
end Go.Proofs.YtamagbdkcfmfmaaDoor
