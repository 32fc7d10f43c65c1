/-
 TgMp, without what this claim does not reach.
-/
import Derived.Test.YtiohmnhbmmhnhaaGreatDoorZTgF3
import Derived.Test.YtiohmnhbmmhnhaaGreatDoorZTgApp
import Derived.Maps.AppendAt
namespace Go.Proofs.YtiohmnhbmmhnhaaGreatDoor
open Go.RowKit Go.Shelf Go.Lib
theorem snoc_get {α : Type} {l : List α} {x p : α} {i : Nat} (h : (l ++ [x])[i]? = some p) : l[i]? = some p ∨ (i = l.length ∧ p = x) := by
 rw [List.getElem?_append] at h
 split at h
 ·exact .inl h
 ·rename_i hi
  right
  have hj : i - l.length = 0 := by
   rcases Nat.eq_zero_or_pos (i - l.length) with h0 | h0
   ·exact h0
   ·rw [List.getElem?_eq_none (by simp; omega)] at h; cases h
  rw [hj] at h
  simp at h
  exact ⟨by omega, h.symm⟩
theorem set_get {α : Type} {l : List α} {x p : α} {i j : Nat} (h : (l.set i x)[j]? = some p) : (j = i ∧ p = x) ∨ (j ≠ i ∧ l[j]? = some p) := by
 by_cases e : j = i
 ·subst e
  rw [List.getElem?_set] at h
  simp only [if_true] at h
  split at h
  ·simp at h; exact .inl ⟨rfl, h.symm⟩
  ·cases h
 ·rw [List.getElem?_set_ne (Ne.symm e)] at h
  exact .inr ⟨e, h⟩
theorem set_at {α : Type} {l : List α} {k : Nat} {x y : α} (h : l[k]? = some x) : (l.set k y)[k]? = some y := by
 rw [List.getElem?_set, if_pos rfl, if_pos (lt_of_some h)]
theorem set_same {α : Type} {l : List α} {k : Nat} {x : α} (h : l[k]? = some x) : l.set k x = l := by
 apply List.ext_getElem?
 intro j
 by_cases e : k = j
 ·subst e
  rw [set_at h, h]
 ·rw [List.getElem?_set_ne e]
theorem apart_new {w w' : World} {base n : Nat} {e1 e2 : TypeId} {s1 s2 n1 n2 : Nat} {a b : Value} {xs ys : List Value} (ha : w.ownsRow base e1 s1 a n1 xs) (hb : w'.ownsRow n e2 s2 b n2 ys) (hn : w.heap.size ≤ n) : Apart a b := fun k hk e => by
 have h1 := own_blt ha k hk
 have h2 := own_lt hb k e
 omega
structure TabG {α : Type} (fl : List α → List Value) (SL EL : TypeId) (sz : Nat) (w : World) (base : Nat) (v : Value) (vals : List Value) (ps : List (Value × List α)) : Prop where
 own : w.ownsRow base SL 1 v vals.length vals
 all : ∀ (i : Nat) p, ps[i]? = some p → w.ownsRow base EL sz p.1 p.2.length (fl p.2)
 app : ∀ (i j : Nat) p q, i ≠ j → ps[i]? = some p → ps[j]? = some q → Apart p.1 q.1
section
variable {α : Type} {fl : List α → List Value} {SL EL : TypeId} {sz : Nat} {w w' : World} {base : Nat} {v : Value} {vals : List Value} {ps : List (Value × List α)}
theorem TabG.start (w : World) (base : Nat) (hb : base ≤ w.heap.size) : TabG fl SL EL sz (w.alloc (.cells #[] SL)) base (.slice (some ⟨w.heap.size, 0, none⟩) 0 0) [] [] := ⟨World.ownsRow_lit w #[] 0 hb (by unfold maxLen; omega) rfl, fun _ _ h => by simp at h, fun _ _ _ _ _ h => by simp at h⟩
theorem TabG.below (h : TabG fl SL EL sz w base v vals ps) (hb : Below w.heap.size w w') : TabG fl SL EL sz w' base v vals ps := ⟨own_below h.own hb, fun i p hp => own_below (h.all i p hp) hb, h.app⟩
theorem TabG.alloc (h : TabG fl SL EL sz w base v vals ps) (o : Obj) : TabG fl SL EL sz (w.alloc o) base v vals ps := h.below ((Below.refl _ _).alloc (Nat.le_refl _) o)
theorem TabG.pend (h : TabG fl SL EL sz w base v vals ps) (hb : Below w.heap.size w w') {u : Value} {fs : List α} (ho : w'.ownsRow w.heap.size EL sz u fs.length (fl fs)) (hbase : base ≤ w.heap.size) : TabG fl SL EL sz w' base v vals (ps ++ [(u, fs)]) := by
 refine ⟨own_below h.own hb, fun i p hp => ?_, fun i j p q hij hp hq => ?_⟩
 ·rcases snoc_get hp with hp | ⟨_, rfl⟩
  ·exact own_below (h.all i p hp) hb
  ·exact ho.mono hbase
 ·rcases snoc_get hp with hp | ⟨hi, rfl⟩
  ·rcases snoc_get hq with hq | ⟨_, rfl⟩
   ·exact h.app i j p q hij hp hq
   ·exact apart_new (h.all i p hp) ho (Nat.le_refl _)
  ·rcases snoc_get hq with hq | ⟨hj, rfl⟩
   ·exact (apart_new (h.all j q hq) ho (Nat.le_refl _)).symm
   ·exact absurd (hi.trans hj.symm) hij
theorem TabG.grow (h : TabG fl SL EL sz w base v vals ps) (hne : SL ≠ EL) (hg : w.grownBy w' v.ownBlock) {v' : Value} {vals' : List Value} (ho : w'.ownsRow base SL 1 v' vals'.length vals') : TabG fl SL EL sz w' base v' vals' ps :=
 ⟨ho, fun i p hp => own_other (h.all i p hp) hg (apart_types h.own (h.all i p hp) hne), h.app⟩
theorem TabG.beside (h : TabG fl SL EL sz w base v vals ps) {b2 : Nat} {E2 : TypeId} {s2 n2 : Nat} {u : Value} {xs2 : List Value} (hu : w.ownsRow b2 E2 s2 u n2 xs2) (h1 : E2 ≠ SL) (h2 : E2 ≠ EL) (hg : w.grownBy w' u.ownBlock) : TabG fl SL EL sz w' base v vals ps :=
 ⟨own_other h.own hg (apart_types hu h.own h1), fun i p hp => own_other (h.all i p hp) hg (apart_types hu (h.all i p hp) h2), h.app⟩
theorem TabG.turn (h : TabG fl SL EL sz w base v vals ps) (hne : SL ≠ EL) {i : Nat} {u : Value} {fs : List α} (hi : ps[i]? = some (u, fs)) (hg : w.grownBy w' u.ownBlock) {fs' : List α} (ho : w'.ownsRow base EL sz u fs'.length (fl fs')) :
  TabG fl SL EL sz w' base v vals (ps.set i (u, fs')) := by
 refine ⟨own_other h.own hg (apart_types h.own (h.all i _ hi) hne).symm, fun j p hp => ?_, fun a b p q hab hp hq => ?_⟩
 ·rcases set_get hp with ⟨_, rfl⟩ | ⟨hne, hp⟩
  ·exact ho
  ·exact own_other (h.all j p hp) hg (h.app i j _ _ (Ne.symm hne) hi hp)
 ·rcases set_get hp with ⟨ha, rfl⟩ | ⟨ha, hp⟩
  ·rcases set_get hq with ⟨hb, rfl⟩ | ⟨hb, hq⟩
   ·exact absurd (ha.trans hb.symm) hab
   ·exact h.app i b (u, fs) q (Ne.symm hb) hi hq
  ·rcases set_get hq with ⟨hb, rfl⟩ | ⟨hb, hq⟩
   ·exact (h.app i a (u, fs) p (Ne.symm ha) hi hp).symm
   ·exact h.app a b p q hab hp hq
theorem TabG.at_ (h : TabG fl SL EL sz w base v vals ps) {i : Nat} {u : Value} {fs : List α} (hp : ps[i]? = some (u, fs)) : w.ownsRow base EL sz u fs.length (fl fs) := h.all i _ hp
end
structure TwoG {α : Type} (mk : Nat → Nat → α) (n : Nat) (vals : List Value) (ps : List (Value × List α)) (k : Nat) : Prop where
 len : ps.length = 3
 map : ps.map (·.1) = vals
 sz : ∀ (i : Nat) p, ps[i]? = some p → p.2.length = n
 done : ∀ (a : Nat) p, a < k → ps[a]? = some p → ∀ (j : Nat) x, p.2[j]? = some x → x = mk a j
structure MidG {α : Type} (mk : Nat → α) (n j : Nat) (fs : List α) : Prop where
 len : fs.length = n
 done : ∀ (b : Nat) x, b < j → fs[b]? = some x → x = mk b
section
variable {α : Type} {mk : Nat → Nat → α} {n k : Nat} {vals : List Value} {ps : List (Value × List α)}
theorem MidG.zero {mk : Nat → α} {fs : List α} (h : fs.length = n) : MidG mk n 0 fs := ⟨h, fun b _ hb => by omega⟩
theorem MidG.succ {mk : Nat → α} {j : Nat} {fs : List α} (h : MidG mk n j fs) : MidG mk n (j + 1) (fs.set j (mk j)) := by
 refine ⟨by rw [List.length_set]; exact h.len, fun b x hb hx => ?_⟩
 rcases set_get hx with ⟨rfl, rfl⟩ | ⟨hne, hx⟩
 ·rfl
 ·exact h.done b x (by omega) hx
theorem TwoG.set {u : Value} {fs fs' : List α} (h : TwoG mk n vals ps k) (hp : ps[k]? = some (u, fs)) (hm : MidG (mk k) n n fs') : TwoG mk n vals (ps.set k (u, fs')) (k + 1) := by
 have hkl := lt_of_some hp
 refine ⟨by rw [List.length_set]; exact h.len, ?_, fun i p hp' => ?_, fun a p ha hp' => ?_⟩
 ·rw [List.map_set, h.map]
  apply List.ext_getElem?
  intro j
  by_cases e : k = j
  ·subst e
   rw [List.getElem?_set, if_pos rfl, ← h.map, List.length_map, if_pos hkl, List.getElem?_map, hp]
   rfl
  ·rw [List.getElem?_set_ne e]
 ·rcases set_get hp' with ⟨_, rfl⟩ | ⟨_, hi⟩
  ·exact hm.len
  ·exact h.sz i p hi
 ·rcases set_get hp' with ⟨rfl, rfl⟩ | ⟨hne, hp'⟩
  ·intro j x hx
   exact hm.done j x (by have := lt_of_some hx; have hl := hm.len; simp only at this; omega) hx
  ·exact h.done a p (by omega) hp'
theorem TwoG.at_ (h : TwoG mk n vals ps k) {j : Nat} (hj : j < 3) : ∃ u fs, ps[j]? = some (u, fs) ∧ vals[j]? = some u ∧ fs.length = n := by
 obtain ⟨⟨u, fs⟩, hp⟩ := some_of_lt (show j < ps.length by rw [h.len]; exact hj)
 exact ⟨u, fs, hp, by rw [← h.map, List.getElem?_map, hp]; rfl, h.sz _ _ hp⟩
end
section
variable {P : Program} (w : World)
end
end Go.Proofs.YtiohmnhbmmhnhaaGreatDoor
namespace Go.Proofs.YtiohmnhbmmhnhaaGreatDoor
open Go.RowKit Go.Shelf Go.Lib
theorem own_some {w : World} {base : Nat} {e : TypeId} {size n : Nat} {A : Option Addr} {c : Nat} {xs : List Value} (h : w.ownsRow base e size (.slice A n c) n xs) (hn : 0 < n) : ∃ g, A = some ⟨g, 0, none⟩ ∧ base ≤ g ∧ g < w.heap.size := by
 obtain ⟨g, cap, hv, _, hlt⟩ := h.form hn
 injection hv with hA _ _
 exact ⟨g, hA, (h.lt g (by rw [hA]; rfl)).1, hlt⟩
def fl1 (l : List ByteArray) : List Value := l.map .string
def Vis (ps1 : List (Value × List ByteArray)) (ps2 : List (Value × List Pr)) (b i : Nat) : Prop :=
 (∀ (r : Nat) p, ps1[r]? = some p → p.1.ownBlock = some b → i < p.2.length * 1) ∧ (∀ (r : Nat) p, ps2[r]? = some p → p.1.ownBlock = some b → i < p.2.length * 3)
def Free (ps1 : List (Value × List ByteArray)) (ps2 : List (Value × List Pr)) (k b : Nat) : Prop :=
 (∀ (r : Nat) p, r < k → ps1[r]? = some p → p.1.ownBlock ≠ some b) ∧ (∀ (r : Nat) p, r < k → ps2[r]? = some p → p.1.ownBlock ≠ some b)
theorem Free.mono {ps1 : List (Value × List ByteArray)} {ps2 : List (Value × List Pr)} {k k' b : Nat} (h : Free ps1 ps2 k' b) (hk : k ≤ k') : Free ps1 ps2 k b :=
 ⟨fun r p hr => h.1 r p (by omega), fun r p hr => h.2 r p (by omega)⟩
structure Aft (x w : World) (ps1 : List (Value × List ByteArray)) (ps2 : List (Value × List Pr)) (k : Nat) : Prop where
 size : x.heap.size ≤ w.heap.size
 cells : ∀ b i, b < x.heap.size → Vis ps1 ps2 b i → w.cell? ⟨b, i, none⟩ = x.cell? ⟨b, i, none⟩
 block : ∀ b, b < x.heap.size → Free ps1 ps2 k b → w.heap[b]? = x.heap[b]?
section
variable {x w w' : World} {ps1 : List (Value × List ByteArray)} {ps2 : List (Value × List Pr)} {k : Nat}
theorem Aft.refl (x : World) (ps1 : List (Value × List ByteArray)) (ps2 : List (Value × List Pr)) (k : Nat) : Aft x x ps1 ps2 k := ⟨Nat.le_refl _, fun _ _ _ _ => rfl, fun _ _ _ => rfl⟩
theorem Aft.mono {k' : Nat} (h : Aft x w ps1 ps2 k) (hk : k ≤ k') : Aft x w ps1 ps2 k' := ⟨h.size, h.cells, fun b hb hf => h.block b hb (hf.mono hk)⟩
theorem Aft.below (h : Aft x w ps1 ps2 k) (hb : Below w.heap.size w w') : Aft x w' ps1 ps2 k :=
 ⟨Nat.le_trans h.size hb.size, fun b i hbx hv => (hb.cell (p := ⟨b, i, none⟩) (Nat.lt_of_lt_of_le hbx h.size)).trans (h.cells b i hbx hv), fun b hbx hf => (hb.block b (Nat.lt_of_lt_of_le hbx h.size)).trans (h.block b hbx hf)⟩
theorem Aft.alloc (h : Aft x w ps1 ps2 k) (o : Obj) : Aft x (w.alloc o) ps1 ps2 k := h.below ((Below.refl _ _).alloc (Nat.le_refl _) o)
theorem Aft.own (h : Aft x w ps1 ps2 k) {base : Nat} {E : TypeId} {sz n : Nat} {v : Value} {xs : List Value} (ho : x.ownsRow base E sz v n xs) (hf : ∀ b, v.ownBlock = some b → Free ps1 ps2 k b) : w.ownsRow base E sz v n xs := by
 refine ⟨ho.1, ?_⟩
 rcases ho.2 with hn | ⟨g, cap, cur, rfl, hb, hg, rest⟩
 ·exact .inl hn
 ·refine .inr ⟨g, cap, cur, rfl, hb, ?_, rest⟩
  rw [h.block g (Array.getElem?_eq_some_iff.1 hg).1 (hf g rfl)]
  exact hg
theorem Aft.push (h : Aft x w ps1 ps2 k) {base : Nat} {E : TypeId} {sz m m' : Nat} {u v v' : Value} {xs news : List Value} (ho : w.ownsRow base E sz v m xs) (ho' : w'.ownsRow base E sz v' m' (xs ++ news)) (hg : w.grownBy w' v.ownBlock)
  (alt : (v'.ownBlock = v.ownBlock ∧ v.ownBlock ≠ none) ∨ (v'.ownBlock = some w.heap.size ∧ w.grownBy w' none)) (hat : ∀ b, v.ownBlock = some b → b < x.heap.size → u.ownBlock = some b)
  (hvis : ∀ b i, Vis ps1 ps2 b i → u.ownBlock = some b → i < m * sz) (hfree : ∀ b, Free ps1 ps2 k b → u.ownBlock ≠ some b) : Aft x w' ps1 ps2 k := by
 refine ⟨Nat.le_trans h.size hg.size, fun b i hb hv => ?_, fun b hb hf => ?_⟩
 ·rw [← h.cells b i hb hv]
  by_cases e : v.ownBlock = some b
  ·rcases alt with ⟨ha, _⟩ | ⟨_, hn⟩
   ·have hi := hvis b i hv (hat b e hb)
    have hxl := ho.1
    rcases ho.2 with ⟨rfl, _⟩ | ⟨g, cap, cur, rfl, _, hgg, _, _, _, htake⟩
    ·simp [Value.ownBlock] at e
    ·rcases ho'.2 with ⟨rfl, _⟩ | ⟨g', cap', cur', rfl, _, hgg', _, _, _, htake'⟩
     ·rw [e] at ha
      simp [Value.ownBlock] at ha
     ·have e1 : g = b := by simpa [Value.ownBlock] using e
      have e2 : g' = b := by rw [e] at ha; simpa [Value.ownBlock] using ha
      subst e1
      subst e2
      have hc : w.cell? ⟨g', i, none⟩ = cur[i]? := cell_of_row w g' i cur E (0, 0) hgg
      have hc' : w'.cell? ⟨g', i, none⟩ = cur'[i]? := cell_of_row w' g' i cur' E (0, 0) hgg'
      rw [hc, hc', ← Array.getElem?_toList, ← Array.getElem?_toList]
      have t1 : cur.toList[i]? = xs[i]? := by rw [← htake, List.getElem?_take, if_pos hi]
      have hml : m * sz ≤ m' * sz := by
       have := ho'.1
       rw [List.length_append, hxl] at this
       omega
      have t2 : cur'.toList[i]? = (xs ++ news)[i]? := by rw [← htake', List.getElem?_take, if_pos (by omega)]
      rw [t1, t2, List.getElem?_append_left (by omega)]
   ·exact World.cell?_of_block (a := ⟨b, i, none⟩) (hn.block b (Nat.lt_of_lt_of_le hb h.size) (by simp))
  ·exact World.cell?_of_block (a := ⟨b, i, none⟩) (hg.block b (Nat.lt_of_lt_of_le hb h.size) (fun h => e h.symm))
 ·rw [← h.block b hb hf]
  exact hg.block b (Nat.lt_of_lt_of_le hb h.size) (fun e => hfree b hf (hat b e.symm hb))
end
abbrev T1 (w : World) (base : Nat) (v : Value) (vals : List Value) (ps : List (Value × List ByteArray)) : Prop := TabG fl1 33 9 1 w base v vals ps
section
variable {x w : World} {base : Nat} {V1 V2 : Value} {vals1 vals2 : List Value} {ps1 : List (Value × List ByteArray)} {ps2 : List (Value × List Pr)}
end
end Go.Proofs.YtiohmnhbmmhnhaaGreatDoor
