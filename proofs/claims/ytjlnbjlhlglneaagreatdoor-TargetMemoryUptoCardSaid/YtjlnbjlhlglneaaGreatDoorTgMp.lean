/-
  What growing copies of rows leaves as it was.
-/
import Derived.Test.YtjlnbjlhlglneaaGreatDoorTgMo
namespace Go.Proofs.YtjlnbjlhlglneaaGreatDoor
open Go.RowKit Go.Shelf Go.Lib

theorem own_some {w : World} {base : Nat} {e : TypeId} {size n : Nat} {A : Option Addr} {c : Nat} {xs : List Value} (h : w.ownsRow base e size (.slice A n c) n xs) (hn : 0 < n) : ∃ g, A = some ⟨g, 0, none⟩ ∧ base ≤ g ∧ g < w.heap.size := by
  obtain ⟨g, cap, hv, _, hlt⟩ := h.form hn
  injection hv with hA _ _
  exact ⟨g, hA, (h.lt g (by rw [hA]; rfl)).1, hlt⟩
/-- The rows of texts as cells. -/
def fl1 (l : List ByteArray) : List Value := l.map .string
/-- A cell that no row's tail holds. -/
def Vis (ps1 : List (Value × List ByteArray)) (ps2 : List (Value × List Pr)) (b i : Nat) : Prop :=
  (∀ (r : Nat) p, ps1[r]? = some p → p.1.ownBlock = some b → i < p.2.length * 1) ∧ (∀ (r : Nat) p, ps2[r]? = some p → p.1.ownBlock = some b → i < p.2.length * 3)
/-- A block that none of the first k rows holds. -/
def Free (ps1 : List (Value × List ByteArray)) (ps2 : List (Value × List Pr)) (k b : Nat) : Prop :=
  (∀ (r : Nat) p, r < k → ps1[r]? = some p → p.1.ownBlock ≠ some b) ∧ (∀ (r : Nat) p, r < k → ps2[r]? = some p → p.1.ownBlock ≠ some b)
theorem Free.mono {ps1 : List (Value × List ByteArray)} {ps2 : List (Value × List Pr)} {k k' b : Nat} (h : Free ps1 ps2 k' b) (hk : k ≤ k') : Free ps1 ps2 k b :=
  ⟨fun r p hr => h.1 r p (by omega), fun r p hr => h.2 r p (by omega)⟩
/-- Behind the world x: the cells that are seen are the same, and so is every block but those of the first k rows. -/
structure Aft (x w : World) (ps1 : List (Value × List ByteArray)) (ps2 : List (Value × List Pr)) (k : Nat) : Prop where
  size : x.heap.size ≤ w.heap.size
  cells : ∀ b i, b < x.heap.size → Vis ps1 ps2 b i → w.cell? ⟨b, i, none⟩ = x.cell? ⟨b, i, none⟩
  block : ∀ b, b < x.heap.size → Free ps1 ps2 k b → w.heap[b]? = x.heap[b]?
section
variable {x w w' : World} {ps1 : List (Value × List ByteArray)} {ps2 : List (Value × List Pr)} {k : Nat}
theorem Aft.refl (x : World) (ps1 : List (Value × List ByteArray)) (ps2 : List (Value × List Pr)) (k : Nat) : Aft x x ps1 ps2 k := ⟨Nat.le_refl _, fun _ _ _ _ => rfl, fun _ _ _ => rfl⟩
theorem Aft.mono {k' : Nat} (h : Aft x w ps1 ps2 k) (hk : k ≤ k') : Aft x w ps1 ps2 k' := ⟨h.size, h.cells, fun b hb hf => h.block b hb (hf.mono hk)⟩
theorem Aft.below (h : Aft x w ps1 ps2 k) (hb : Below w.heap.size w w') : Aft x w' ps1 ps2 k :=
  ⟨Nat.le_trans h.size hb.size, fun b i hbx hv => (hb.cell (p := ⟨b, i, none⟩) (Nat.lt_of_lt_of_le hbx h.size)).trans (h.cells b i hbx hv), fun b hbx hf => (hb.block b (Nat.lt_of_lt_of_le hbx h.size)).trans (h.block b hbx hf)⟩
theorem Aft.alloc (h : Aft x w ps1 ps2 k) (o : Obj) : Aft x (w.alloc o) ps1 ps2 k := h.below ((Below.refl _ _).alloc (Nat.le_refl _) o)
theorem Aft.own (h : Aft x w ps1 ps2 k) {base : Nat} {E : TypeId} {sz n : Nat} {v : Value} {xs : List Value} (ho : x.ownsRow base E sz v n xs) (hf : ∀ b, v.ownBlock = some b → Free ps1 ps2 k b) : w.ownsRow base E sz v n xs := by
  refine ⟨ho.1, ?_⟩
  rcases ho.2 with hn | ⟨g, cap, cur, rfl, hb, hg, rest⟩
  · exact .inl hn
  · refine .inr ⟨g, cap, cur, rfl, hb, ?_, rest⟩
    rw [h.block g (Array.getElem?_eq_some_iff.1 hg).1 (hf g rfl)]
    exact hg
/-- An append to a copy of the row u. -/
theorem Aft.push (h : Aft x w ps1 ps2 k) {base : Nat} {E : TypeId} {sz m m' : Nat} {u v v' : Value} {xs news : List Value} (ho : w.ownsRow base E sz v m xs) (ho' : w'.ownsRow base E sz v' m' (xs ++ news)) (hg : w.grownBy w' v.ownBlock)
    (alt : (v'.ownBlock = v.ownBlock ∧ v.ownBlock ≠ none) ∨ (v'.ownBlock = some w.heap.size ∧ w.grownBy w' none)) (hat : ∀ b, v.ownBlock = some b → b < x.heap.size → u.ownBlock = some b)
    (hvis : ∀ b i, Vis ps1 ps2 b i → u.ownBlock = some b → i < m * sz) (hfree : ∀ b, Free ps1 ps2 k b → u.ownBlock ≠ some b) : Aft x w' ps1 ps2 k := by
  refine ⟨Nat.le_trans h.size hg.size, fun b i hb hv => ?_, fun b hb hf => ?_⟩
  · rw [← h.cells b i hb hv]
    by_cases e : v.ownBlock = some b
    · rcases alt with ⟨ha, _⟩ | ⟨_, hn⟩
      · have hi := hvis b i hv (hat b e hb)
        have hxl := ho.1
        rcases ho.2 with ⟨rfl, _⟩ | ⟨g, cap, cur, rfl, _, hgg, _, _, _, htake⟩
        · simp [Value.ownBlock] at e
        · rcases ho'.2 with ⟨rfl, _⟩ | ⟨g', cap', cur', rfl, _, hgg', _, _, _, htake'⟩
          · rw [e] at ha
            simp [Value.ownBlock] at ha
          · have e1 : g = b := by simpa [Value.ownBlock] using e
            have e2 : g' = b := by rw [e] at ha; simpa [Value.ownBlock] using ha
            subst e1
            subst e2
            have hc : w.cell? ⟨g', i, none⟩ = cur[i]? := cell_of_row w g' i cur E (0, 0) hgg
            have hc' : w'.cell? ⟨g', i, none⟩ = cur'[i]? := cell_of_row w' g' i cur' E (0, 0) hgg'
            rw [hc, hc', ← Array.getElem?_toList, ← Array.getElem?_toList]
            have t1 : cur.toList[i]? = xs[i]? := by rw [← htake, List.getElem?_take, if_pos hi]
            have hml : m * sz ≤ m' * sz := by
              have := ho'.1
              rw [List.length_append, hxl] at this
              omega
            have t2 : cur'.toList[i]? = (xs ++ news)[i]? := by rw [← htake', List.getElem?_take, if_pos (by omega)]
            rw [t1, t2, List.getElem?_append_left (by omega)]
      · exact World.cell?_of_block (a := ⟨b, i, none⟩) (hn.block b (Nat.lt_of_lt_of_le hb h.size) (by simp))
    · exact World.cell?_of_block (a := ⟨b, i, none⟩) (hg.block b (Nat.lt_of_lt_of_le hb h.size) (fun h => e h.symm))
  · rw [← h.block b hb hf]
    exact hg.block b (Nat.lt_of_lt_of_le hb h.size) (fun e => hfree b hf (hat b e.symm hb))
/-- Where the copy lies, behind an append. -/
theorem at_push {u v v' : Value} (hx : x.heap.size ≤ w.heap.size) (alt : (v'.ownBlock = v.ownBlock ∧ v.ownBlock ≠ none) ∨ (v'.ownBlock = some w.heap.size ∧ w.grownBy w' none)) (hat : ∀ b, v.ownBlock = some b → b < x.heap.size → u.ownBlock = some b) :
    ∀ b, v'.ownBlock = some b → b < x.heap.size → u.ownBlock = some b := fun b hb hlt => by
  rcases alt with ⟨ha, _⟩ | ⟨ha, _⟩
  · exact hat b (ha.symm.trans hb) hlt
  · rw [ha] at hb
    injection hb with hb
    omega
end
abbrev T1 (w : World) (base : Nat) (v : Value) (vals : List Value) (ps : List (Value × List ByteArray)) : Prop := TabG fl1 41 9 1 w base v vals ps
abbrev T2 (w : World) (base : Nat) (v : Value) (vals : List Value) (ps : List (Value × List Pr)) : Prop := TabG flat3 33 51 3 w base v vals ps
section
variable {x w : World} {base : Nat} {V1 V2 : Value} {vals1 vals2 : List Value} {ps1 : List (Value × List ByteArray)} {ps2 : List (Value × List Pr)}
theorem vis1 {k m : Nat} {u : Value} {fs : List ByteArray} (hp : ps1[k]? = some (u, fs)) (hm : fs.length ≤ m) : ∀ b i, Vis ps1 ps2 b i → u.ownBlock = some b → i < m * 1 := fun b i hv hu => by
  have := hv.1 k _ hp hu
  simp only at this
  omega
theorem vis2 {k m : Nat} {u : Value} {fs : List Pr} (hp : ps2[k]? = some (u, fs)) (hm : fs.length ≤ m) : ∀ b i, Vis ps1 ps2 b i → u.ownBlock = some b → i < m * 3 := fun b i hv hu => by
  have := hv.2 k _ hp hu
  simp only at this
  omega
theorem free1 {k : Nat} {u : Value} {fs : List ByteArray} (hp : ps1[k]? = some (u, fs)) : ∀ b, Free ps1 ps2 (k + 1) b → u.ownBlock ≠ some b := fun b hf => hf.1 k _ (by omega) hp
theorem free2 {k : Nat} {u : Value} {fs : List Pr} (hp : ps2[k]? = some (u, fs)) : ∀ b, Free ps1 ps2 (k + 1) b → u.ownBlock ≠ some b := fun b hf => hf.2 k _ (by omega) hp
/-- A block of a type that is none of the rows'. -/
theorem free_of_type (h1 : T1 x base V1 vals1 ps1) (h2 : T2 x base V2 vals2 ps2) {b2 : Nat} {E : TypeId} {s n : Nat} {v : Value} {xs : List Value} (ho : x.ownsRow b2 E s v n xs) (e1 : E ≠ 9) (e2 : E ≠ 51) (k : Nat) : ∀ b, v.ownBlock = some b → Free ps1 ps2 k b := fun b hb =>
  ⟨fun r p _ hp e => apart_types ho (h1.all r p hp) e1 b hb e, fun r p _ hp e => apart_types ho (h2.all r p hp) e2 b hb e⟩
theorem free_row1 (h1 : T1 x base V1 vals1 ps1) (h2 : T2 x base V2 vals2 ps2) {k : Nat} {p : Value × List ByteArray} (hp : ps1[k]? = some p) : ∀ b, p.1.ownBlock = some b → Free ps1 ps2 k b := fun b hb =>
  ⟨fun r q hr hq e => h1.app k r _ _ (by omega) hp hq b hb e, fun r q _ hq e => apart_types (h1.all k p hp) (h2.all r q hq) (by decide) b hb e⟩
theorem free_row2 (h1 : T1 x base V1 vals1 ps1) (h2 : T2 x base V2 vals2 ps2) {k : Nat} {p : Value × List Pr} (hp : ps2[k]? = some p) : ∀ b, p.1.ownBlock = some b → Free ps1 ps2 k b := fun b hb =>
  ⟨fun r q _ hq e => apart_types (h2.all k p hp) (h1.all r q hq) (by decide) b hb e, fun r q hr hq e => h2.app k r _ _ (by omega) hp hq b hb e⟩
theorem seen_row1 (h1 : T1 x base V1 vals1 ps1) (h2 : T2 x base V2 vals2 ps2) {K : Nat} (ha : Aft x w ps1 ps2 K) {k : Nat} {A : Option Addr} {n c : Nat} {fs : List ByteArray} (hp : ps1[k]? = some (.slice A n c, fs)) (hn : n = fs.length) : Row w A (fs.map .string) := fun hl => by
  subst hn
  have ho := h1.all k _ hp
  obtain ⟨g, rfl, _, hg⟩ := own_some ho (by simpa using hl)
  obtain ⟨b, off, e, hb, hc⟩ := own_row ho hl
  injection e with e
  injection e with e1 e2
  subst e1
  subst e2
  refine ⟨g, 0, rfl, Nat.lt_of_lt_of_le hg ha.size, fun j v hj => ?_⟩
  rw [← hc j v hj]
  refine ha.cells g (0 + j) hg ⟨fun r q hq e => ?_, fun r q hq e => ?_⟩
  · by_cases er : r = k
    · subst er
      rw [hp] at hq
      cases hq
      have := lt_of_some hj
      rw [List.length_map] at this
      simp only
      omega
    · exact absurd e (h1.app k r _ _ (Ne.symm er) hp hq g rfl)
  · exact absurd e (apart_types ho (h2.all r q hq) (by decide) g rfl)
theorem seen_row2 (h1 : T1 x base V1 vals1 ps1) (h2 : T2 x base V2 vals2 ps2) {K : Nat} (ha : Aft x w ps1 ps2 K) {k : Nat} {A : Option Addr} {n c : Nat} {fs : List Pr} (hp : ps2[k]? = some (.slice A n c, fs)) (hn : n = fs.length) : Row w A (flat3 fs) := fun hl => by
  subst hn
  have ho := h2.all k _ hp
  obtain ⟨g, rfl, _, hg⟩ := own_some ho (by rw [flat3_length] at hl; omega)
  obtain ⟨b, off, e, hb, hc⟩ := own_row ho hl
  injection e with e
  injection e with e1 e2
  subst e1
  subst e2
  refine ⟨g, 0, rfl, Nat.lt_of_lt_of_le hg ha.size, fun j v hj => ?_⟩
  rw [← hc j v hj]
  refine ha.cells g (0 + j) hg ⟨fun r q hq e => ?_, fun r q hq e => ?_⟩
  · exact absurd e (apart_types ho (h1.all r q hq) (by decide) g rfl)
  · by_cases er : r = k
    · subst er
      rw [hp] at hq
      cases hq
      have := lt_of_some hj
      rw [flat3_length] at this
      simp only
      omega
    · exact absurd e (h2.app k r _ _ (Ne.symm er) hp hq g rfl)
end
end Go.Proofs.YtjlnbjlhlglneaaGreatDoor
