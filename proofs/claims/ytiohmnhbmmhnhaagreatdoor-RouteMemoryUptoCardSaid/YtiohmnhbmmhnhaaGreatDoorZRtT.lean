/-
 RtT, without what this claim does not reach.
-/
import Derived.Test.YtiohmnhbmmhnhaaGreatDoorZRtD
import Derived.Test.YtiohmnhbmmhnhaaGreatDoorZRlKs
import Derived.Test.YtiohmnhbmmhnhaaGreatDoorZTgF3
import Derived.Test.YtiohmnhbmmhnhaaGreatDoorZTgApp
import Derived.Deep.DeepCutAuto
namespace Go.Proofs.YtiohmnhbmmhnhaaGreatDoor
open Go.RowKit Go.Shelf Go.Lib
def nv (x : En) : Value := .slice x.2.2.2.1 x.2.2.2.2.1 x.2.2.2.2.2
def numsV (l : List Nat) : List Value := l.map fun n : Nat => Value.int .i64 (n : Int)
theorem numsV_get {l : List Nat} {k n : Nat} (h : l[k]? = some n) : (numsV l)[k]? = some (.int .i64 (n : Int)) := by unfold numsV; rw [List.getElem?_map, h]; rfl
theorem numsV_snoc (l : List Nat) (n : Nat) : numsV (l ++ [n]) = numsV l ++ [.int .i64 (n : Int)] := by unfold numsV; rw [List.map_append]; rfl
def mv (x : Ra) : Value := .slice x.1.1.1 x.1.2.1.length x.1.1.2
def plc (p : ByteArray) (l : List Rt) : List Nat := placesOf (fun r : Rt => decide (r.2 = p)) l 0
theorem plc_snoc (p : ByteArray) (l : List Rt) (r : Rt) : plc p (l ++ [r]) = plc p l ++ (if r.2 = p then [l.length] else []) := by
 unfold plc
 rw [places_snoc, Nat.zero_add]
 by_cases h : r.2 = p
 ·rw [if_pos h, if_pos (decide_eq_true h)]
 ·rw [if_neg h, if_neg (by simpa using h)]
theorem plc_none {p : ByteArray} {l : List Rt} (h : ∀ r ∈ l, r.2 ≠ p) : plc p l = [] := places_none fun r hr => decide_eq_false (h r hr)
theorem places_len {β : Type} (f : β → Bool) : ∀ (l : List β) (i : Nat), (placesOf f l i).length ≤ l.length
 | [], _ => Nat.le_refl _
 | x :: l, i => by
  have := places_len f l (i + 1)
  unfold placesOf
  split <;> (rw [List.length_cons]; first | (rw [List.length_cons]; omega) | omega)
theorem plc_len (p : ByteArray) (l : List Rt) : (plc p l).length ≤ l.length := places_len _ _ _
def Off (S : Nat → Prop) (q : Nat) (v : Value) : Prop := ∀ b, v.ownBlock = some b → ¬ S b ∧ b ≠ q
structure Tre (w0 w : World) (q : Nat) (es : List En) (B : Nat) (S : Nat → Prop) : Prop where
 at_ : TreeAt S w q es
 good : GoodE es
 sum : sumE es ≤ B
 old : w0.heap.size ≤ q
 low : ∀ b, S b → b < w.heap.size
theorem Turn.grown {q : Nat} {w w' : World} (h : Turn q w w') : w.grownBy w' (some q) := ⟨h.os, h.tape, h.output, h.size, fun k hk hne => h.block k hk (fun e => hne (by rw [e]))⟩
theorem grownBy_of_below {w w' : World} (h : Below w.heap.size w w') : w.grownBy w' none := ⟨h.os, h.tape, h.output, h.size, fun k hk _ => h.block k hk⟩
theorem grownBy_cell (w : World) (p : Addr) (u : Value) : w.grownBy (w.setCell p u) (some p.block) :=
 ⟨rfl, rfl, rfl, by simp, fun k _ hne => Below.heap_setCell w p u k (fun e => hne (by rw [e]))⟩
section
variable {w0 w w2 : World} {q B : Nat} {es : List En} {S : Nat → Prop}
theorem Tre.step (h : Tre w0 w q es B S) {row : Option Nat} (hg : w.grownBy w2 row) (hr : ∀ b, row = some b → ¬ S b ∧ b ≠ q) : Tre w0 w2 q es B S :=
 ⟨h.at_.hold (Hold.of_grown hg fun b hb => (hr b hb).1) (hg.block q h.at_.lt fun e => (hr q e.symm).2 rfl), h.good, h.sum, h.old, fun b hb => Nat.lt_of_lt_of_le (h.low b hb) hg.size⟩
end
structure Mk (w0 w : World) (q tb : Nat) (sl : Bool) (B : Nat) (S : Nat → Prop) (l : List Rt) (es : List En) (vr : Value) (rs : List Ra) : Prop where
 tree : Tre w0 w q es B S
 own : ∀ x ∈ es, w.ownsRow w0.heap.size 3 1 (nv x) (plc x.1 l).length (numsV (plc x.1 l))
 apart : es.Pairwise fun x y => Apart (nv x) (nv y)
 tab : Blk w tb 84 #[.pointer (some ⟨q, 0, none⟩), vr, .bool sl]
 tlow : w0.heap.size ≤ tb
 row : w.ownsRow w0.heap.size 38 9 vr rs.length (flatA rs)
 met : ∀ x ∈ rs, w.ownsRow w0.heap.size 9 1 (mv x) x.1.2.1.length (x.1.2.1.map .string)
 otb : ¬ S tb ∧ tb ≠ q
 orow : Off S q vr
 omet : ∀ x ∈ rs, Off S q (mv x)
 onum : ∀ x ∈ es, Off S q (nv x)
 base : Below w0.heap.size w0 w
section
variable {w0 w w2 w3 : World} {q tb B : Nat} {sl : Bool} {S : Nat → Prop} {l : List Rt} {es : List En} {vr vr' : Value} {rs : List Ra}
theorem kept_none {base : Nat} {E : TypeId} {sz n : Nat} {v : Value} {xs : List Value} (h : w.ownsRow base E sz v n xs) {b : Nat} (hg : w.grownBy w2 (some b)) (hb : v.ownBlock ≠ some b) : w2.ownsRow base E sz v n xs := h.kept hg (by
 cases hv : v.ownBlock with
 | none => exact .inl rfl
 | some k => exact .inr (fun e => hb (by rw [hv, e])))
theorem Mk.below (h : Mk w0 w q tb sl B S l es vr rs) (hb : Below w.heap.size w w2) : Mk w0 w2 q tb sl B S l es vr rs where
 tree := h.tree.step (grownBy_of_below hb) (fun b hb => by cases hb)
 own := fun x hx => own_below (h.own x hx) hb
 apart := h.apart
 tab := h.tab.below hb h.tab.lt
 tlow := h.tlow
 row := own_below h.row hb
 met := fun x hx => own_below (h.met x hx) hb
 otb := h.otb
 orow := h.orow
 omet := h.omet
 onum := h.onum
 base := h.base.trans (hb.mono h.base.size)
theorem Mk.more {B' : Nat} (h : Mk w0 w q tb sl B S l es vr rs) (hB : B ≤ B') : Mk w0 w q tb sl B' S l es vr rs := { h with tree := ⟨h.tree.at_, h.tree.good, Nat.le_trans h.tree.sum hB, h.tree.old, h.tree.low⟩ }
theorem Mk.push (h : Mk w0 w q tb sl B S l es vr rs) (hb : Below w.heap.size w w2) {x : Ra} (hx : w2.ownsRow w0.heap.size 9 1 (mv x) x.1.2.1.length (x.1.2.1.map .string)) (hxo : ∀ b, (mv x).ownBlock = some b → w.heap.size ≤ b)
  (hg : w2.grownBy w3 vr.ownBlock) (hr : w3.ownsRow w0.heap.size 38 9 vr' (rs ++ [x]).length (flatA (rs ++ [x]))) (alt : vr'.ownBlock = vr.ownBlock ∨ vr'.ownBlock = some w2.heap.size) :
  Mk w0 (w3.setCell ⟨tb, 1, none⟩ vr') q tb sl B S l es vr' (rs ++ [x]) := by
 have h2 := h.below hb
 have hT : some tb ≠ vr.ownBlock := fun e => own_blk_ne h2.row h2.tab (by decide) e.symm
 have hB3 : Blk w3 tb 84 #[.pointer (some ⟨q, 0, none⟩), vr, .bool sl] := h2.tab.grown hg hT
 have hc := grownBy_cell w3 ⟨tb, 1, none⟩ vr'
 have hlow : ∀ b, vr'.ownBlock = some b → ¬ S b ∧ b ≠ q := fun b hb' => by
  rcases alt with e | e
  ·exact h.orow b (by rw [← e]; exact hb')
  ·rw [e] at hb'
   obtain rfl := Option.some.inj hb'
   exact ⟨fun hs => by have := h2.tree.low _ hs; omega, fun e => by have := h2.tree.at_.lt; omega⟩
 have hx3 : w3.ownsRow w0.heap.size 9 1 (mv x) x.1.2.1.length (x.1.2.1.map .string) := own_other hx hg (apart_types h2.row hx (by decide))
 exact {
  tree := (h2.tree.step hg h2.orow).step hc (fun b e => by obtain rfl := Option.some.inj e; exact h.otb)
  own := fun y hy => by
   have := own_other (h2.own y hy) hg (apart_types h2.row (h2.own y hy) (by decide))
   exact kept_none this hc (own_blk_ne this hB3 (by decide))
  apart := h.apart
  tab := hB3.set_ 1 vr'
  tlow := h.tlow
  row := kept_none hr hc (own_blk_ne hr hB3 (by decide))
  met := fun y hy => by
   rcases List.mem_append.1 hy with hy | hy
   ·have := own_other (h2.met y hy) hg (apart_types h2.row (h2.met y hy) (by decide))
    exact kept_none this hc (own_blk_ne this hB3 (by decide))
   ·obtain rfl := List.mem_singleton.1 hy
    exact kept_none hx3 hc (own_blk_ne hx3 hB3 (by decide))
  otb := h.otb
  orow := hlow
  omet := fun y hy => by
   rcases List.mem_append.1 hy with hy | hy
   ·exact h.omet y hy
   ·obtain rfl := List.mem_singleton.1 hy
    exact fun b hb' => ⟨fun hs => by have := h.tree.low b hs; have := hxo b hb'; omega, fun e => by have := h.tree.at_.lt; have := hxo b hb'; omega⟩
  onum := h.onum
  base := (h2.base.grown hg h2.base.size (fun k hk => own_lt h2.row k hk)).setCell h.tlow _ }
structure Out (w0 w : World) (q : Nat) (S : Nat → Prop) (es : List En) (v : Value) (ns : List Nat) : Prop where
 own : w.ownsRow w0.heap.size 3 1 v ns.length (numsV ns)
 apart : ∀ y ∈ es, Apart v (nv y)
 off : Off S q v
theorem Mk.rem_none (h : Mk w0 w q tb sl B S l es vr rs) (hb : Below w.heap.size w w2) : Mk w0 w2 q tb sl B S l es vr rs ∧ Out w0 w2 q S es (.slice none 0 0) [] :=
 ⟨h.below hb, World.ownsRow_nil _ _ _ _, fun _ _ k hk => by simp [Value.ownBlock] at hk, fun k hk => by simp [Value.ownBlock] at hk⟩
theorem Mk.turn (h : Mk w0 w q tb sl B S l es vr rs) (ht : Turn q w w2) {S' : Nat → Prop} {es2 : List En} (hS : ∀ b, b < w.heap.size → S' b → S b) (hT : TreeAt S' w2 q es2) (hlow : ∀ b, S' b → b < w2.heap.size) (hg : GoodE es2) (hs : sumE es2 ≤ B) (hsub : ∀ x ∈ es2, x ∈ es) (hap : es2.Pairwise fun x y => Apart (nv x) (nv y)) : Mk w0 w2 q tb sl B S' l es2 vr rs := by
 have hgr := ht.grown
 have off : ∀ {v : Value}, Off S q v → (∀ b, v.ownBlock = some b → b < w.heap.size) → Off S' q v := fun ho hl b hb => ⟨fun hs => (ho b hb).1 (hS b (hl b hb) hs), (ho b hb).2⟩
 exact {
  tree := ⟨hT, hg, hs, h.tree.old, hlow⟩
  own := fun x hx => kept_none (h.own x (hsub x hx)) hgr (fun e => (h.onum x (hsub x hx) q e).2 rfl)
  apart := hap
  tab := h.tab.grown hgr (fun e => h.otb.2 (Option.some.inj e))
  tlow := h.tlow
  row := kept_none h.row hgr (fun e => (h.orow q e).2 rfl)
  met := fun x hx => kept_none (h.met x hx) hgr (fun e => (h.omet x hx q e).2 rfl)
  otb := ⟨fun hs => h.otb.1 (hS tb h.tab.lt hs), h.otb.2⟩
  orow := off h.orow (own_blt h.row)
  omet := fun x hx => off (h.omet x hx) (own_blt (h.met x hx))
  onum := fun x hx => off (h.onum x (hsub x hx)) (own_blt (h.own x (hsub x hx)))
  base := h.base.trans (ht.below h.tree.old h.base.size) }
def More (S : Nat → Prop) (w w2 : World) : Nat → Prop := fun b => S b ∨ (w.heap.size ≤ b ∧ b < w2.heap.size)
theorem More.old {S : Nat → Prop} {w w2 : World} : ∀ b, b < w.heap.size → More S w w2 b → S b := fun b hb h => by
 rcases h with h | h
 ·exact h
 ·omega
theorem More.low {S : Nat → Prop} {w w2 : World} (h : ∀ b, S b → b < w.heap.size) (hz : w.heap.size ≤ w2.heap.size) : ∀ b, More S w w2 b → b < w2.heap.size := fun b hb => by
 rcases hb with hb | hb
 ·exact Nat.lt_of_lt_of_le (h b hb) hz
 ·exact hb.2
theorem split_at {es : List En} {i : Nat} {x : En} (h : es[i]? = some x) : es = es.take i ++ x :: es.drop (i + 1) := by
 obtain ⟨hi, rfl⟩ := List.getElem?_eq_some_iff.1 h
 rw [← List.drop_eq_getElem_cons hi, List.take_append_drop]
theorem apart_erase {es : List En} {i : Nat} {x : En} (h : es[i]? = some x) (hp : es.Pairwise fun x y => Apart (nv x) (nv y)) : ∀ y ∈ es.eraseIdx i, Apart (nv x) (nv y) := by
 rw [split_at h, List.pairwise_append] at hp
 obtain ⟨_, h2, h3⟩ := hp
 obtain ⟨h4, _⟩ := List.pairwise_cons.1 h2
 intro y hy
 rw [List.eraseIdx_eq_take_drop_succ] at hy
 rcases List.mem_append.1 hy with hy | hy
 ·exact (h3 y hy x (List.mem_cons_self ..)).symm
 ·exact h4 y hy
theorem Mk.rem_some (h : Mk w0 w q tb sl B S l es vr rs) (ht : Turn q w w2) {i : Nat} {x : En} (hx : es[i]? = some x) (hT : TreeAt (More S w w2) w2 q (es.eraseIdx i)) :
  Mk w0 w2 q tb sl B (More S w w2) l (es.eraseIdx i) vr rs ∧ Out w0 w2 q (More S w w2) (es.eraseIdx i) (nv x) (plc x.1 l) := by
 have hxm := List.mem_of_getElem? hx
 refine ⟨h.turn ht More.old hT (More.low h.tree.low ht.size) (remE_sort h.tree.good i) (Nat.le_trans (sumE_sub (List.eraseIdx_sublist _ _)) h.tree.sum) (fun y hy => List.mem_of_mem_eraseIdx hy) (h.apart.sublist (List.eraseIdx_sublist _ _)), ?_, apart_erase hx h.apart, ?_⟩
 ·exact kept_none (h.own x hxm) ht.grown (fun e => (h.onum x hxm q e).2 rfl)
 ·exact fun b hb => ⟨fun hs => (h.onum x hxm b hb).1 (More.old b (own_blt (h.own x hxm) b hb) hs), (h.onum x hxm b hb).2⟩
theorem Mk.num (h : Mk w0 w q tb sl B S l es vr rs) {v : Value} {ns : List Nat} (ho : Out w0 w q S es v ns) (hb : Below w.heap.size w w2) (hg : w2.grownBy w3 v.ownBlock) {v' : Value} {n : Nat} (hv : w3.ownsRow w0.heap.size 3 1 v' (ns ++ [n]).length (numsV (ns ++ [n]))) (alt : v'.ownBlock = v.ownBlock ∨ v'.ownBlock = some w2.heap.size) :
  Mk w0 w3 q tb sl B S l es vr rs ∧ Out w0 w3 q S es v' (ns ++ [n]) := by
 have h2 := h.below hb
 have ho2 := own_below ho.own hb
 refine ⟨{
  tree := h2.tree.step hg ho.off
  own := fun y hy => own_other (h2.own y hy) hg (ho.apart y hy)
  apart := h.apart
  tab := h2.tab.grown hg (fun e => own_blk_ne ho2 h2.tab (by decide) e.symm)
  tlow := h.tlow
  row := own_other h2.row hg (apart_types ho2 h2.row (by decide))
  met := fun y hy => own_other (h2.met y hy) hg (apart_types ho2 (h2.met y hy) (by decide))
  otb := h.otb
  orow := h.orow
  omet := h.omet
  onum := h.onum
  base := h2.base.grown hg h2.base.size (fun k hk => own_lt ho2 k hk) }, hv, fun y hy => (ho.apart y hy).grow alt (own_blt (h2.own y hy)), fun b hb' => ?_⟩
 rcases alt with e | e
 ·exact ho.off b (by rw [← e]; exact hb')
 ·rw [e] at hb'
  obtain rfl := Option.some.inj hb'
  exact ⟨fun hs => by have := h2.tree.low _ hs; omega, fun e => by have := h2.tree.at_.lt; omega⟩
theorem Mk.ins (h : Mk w0 w q tb sl B S l es vr rs) (ht : Turn q w w2) {r : Rt} {loc : Option Addr × Nat} {v : Option Addr × Nat × Nat} (ho : Out w0 w q S es (.slice v.1 v.2.1 v.2.2) (plc r.2 l ++ [l.length])) (hne : ∀ y ∈ es, y.1 ≠ r.2)
  (hT : TreeAt (More S w w2) w2 q (insE es (r.2, loc, (splitP r.2).1, v))) (hs : (splitP r.2).2.2 = true) (hn : ∀ y ∈ es, ordP y.2.2.1 (splitP r.2).1 ≠ 0) :
  Mk w0 w2 q tb sl (B + (r.2.size + 1)) (More S w w2) (l ++ [r]) (insE es (r.2, loc, (splitP r.2).1, v)) vr rs := by
 have hgr := ht.grown
 have off : ∀ {v : Value}, Off S q v → (∀ b, v.ownBlock = some b → b < w.heap.size) → Off (More S w w2) q v := fun ho hl b hb => ⟨fun hs => (ho b hb).1 (More.old b (hl b hb) hs), (ho b hb).2⟩
 have hsum : sumE (insE es (r.2, loc, (splitP r.2).1, v)) ≤ B + (r.2.size + 1) := by
  rw [sumE_ins]
  have := h.tree.sum
  show sumE es + (r.2.size + 1) ≤ _
  omega
 refine {
  tree := ⟨hT, h.tree.good.ins hs hn, hsum, h.tree.old, More.low h.tree.low ht.size⟩
  own := fun x hx => ?_
  apart := ?_
  tab := h.tab.grown hgr (fun e => h.otb.2 (Option.some.inj e))
  tlow := h.tlow
  row := kept_none h.row hgr (fun e => (h.orow q e).2 rfl)
  met := fun x hx => kept_none (h.met x hx) hgr (fun e => (h.omet x hx q e).2 rfl)
  otb := ⟨fun hs => h.otb.1 (More.old tb h.tab.lt hs), h.otb.2⟩
  orow := off h.orow (own_blt h.row)
  omet := fun x hx => off (h.omet x hx) (own_blt (h.met x hx))
  onum := fun x hx => ?_
  base := h.base.trans (ht.below h.tree.old h.base.size) }
 ·rcases insE_mem hx with rfl | hx
  ·have e : plc r.2 (l ++ [r]) = plc r.2 l ++ [l.length] := by rw [plc_snoc, if_pos rfl]
   show w2.ownsRow w0.heap.size 3 1 (.slice v.1 v.2.1 v.2.2) (plc r.2 (l ++ [r])).length (numsV (plc r.2 (l ++ [r])))
   rw [e]
   exact kept_none ho.own hgr (fun e => (ho.off q e).2 rfl)
  ·rw [plc_snoc, if_neg (fun e => hne x hx e.symm), List.append_nil]
   exact kept_none (h.own x hx) hgr (fun e => (h.onum x hx q e).2 rfl)
 ·have hp := h.apart
  have hE : es = es.take (cntE es (splitP r.2).1) ++ es.drop (cntE es (splitP r.2).1) := (List.take_append_drop _ _).symm
  unfold insE
  rw [List.pairwise_append, List.pairwise_cons]
  rw [hE, List.pairwise_append] at hp
  refine ⟨hp.1, ⟨fun y hy => ho.apart y (List.mem_of_mem_drop hy), hp.2.1⟩, fun a ha b hb => ?_⟩
  rcases List.mem_cons.1 hb with rfl | hb
  ·exact (ho.apart a (List.mem_of_mem_take ha)).symm
  ·exact hp.2.2 a ha b hb
 ·rcases insE_mem hx with rfl | hx
  ·exact off ho.off (own_blt ho.own)
  ·exact off (h.onum x hx) (own_blt (h.own x hx))
end
def MemE (es : List En) (l : List Rt) : Prop := ∀ p, (∃ x ∈ es, x.1 = p) ↔ ∃ r ∈ l, r.2 = p
theorem ord_self (a : List Pc) : ordP a a = 0 := by have := ordP_anti a a; omega
theorem other_text {es : List En} (hg : GoodE es) {i : Nat} {x : En} (h : es[i]? = some x) : ∀ y ∈ es.eraseIdx i, y.1 ≠ x.1 := by
 have hs := hg.sortE
 have hxm := List.mem_of_getElem? h
 have key : ∀ y, y ∈ es → y.1 = x.1 → y.2.2.1 = x.2.2.1 := fun y hy e => by
  have h1 := hg.pcs y hy
  have h2 := hg.pcs x hxm
  rw [e, h2] at h1
  injection h1 with h1
  exact h1.symm
 have hs2 : es.Pairwise fun x y => ordP x.2.2.1 y.2.2.1 < 0 := hs
 rw [split_at h, List.pairwise_append] at hs2
 obtain ⟨_, h2, h3⟩ := hs2
 obtain ⟨h4, _⟩ := List.pairwise_cons.1 h2
 intro y hy e
 have hm := List.mem_of_mem_eraseIdx hy
 rw [List.eraseIdx_eq_take_drop_succ] at hy
 have he := key y hm e
 rcases List.mem_append.1 hy with hy | hy
 ·have := h3 y hy x (List.mem_cons_self ..)
  rw [he, ord_self] at this
  omega
 ·have := h4 y hy
  rw [he, ord_self] at this
  omega
theorem memE_step {es0 es1 : List En} {l : List Rt} {r : Rt} {loc : Option Addr × Nat} {pl : List Pc} {v : Option Addr × Nat × Nat} (h : MemE es0 l) (hs : ∀ x, x ∈ es1 ↔ x ∈ es0 ∧ x.1 ≠ r.2) : MemE (insE es1 (r.2, loc, pl, v)) (l ++ [r]) := by
 intro p
 constructor
 ·rintro ⟨x, hx, rfl⟩
  rcases insE_mem hx with rfl | hx
  ·exact ⟨r, by simp, rfl⟩
  ·obtain ⟨y, hy, e⟩ := (h x.1).1 ⟨x, ((hs x).1 hx).1, rfl⟩
   exact ⟨y, List.mem_append_left _ hy, e⟩
 ·rintro ⟨y, hy, rfl⟩
  have hmem : ∀ z, (z = (r.2, loc, pl, v) ∨ z ∈ es1) → z ∈ insE es1 (r.2, loc, pl, v) := fun z hz => by
   unfold insE
   rcases hz with rfl | hz
   ·simp
   ·rw [← List.take_append_drop (cntE es1 pl) es1] at hz
    rcases List.mem_append.1 hz with hz | hz
    ·exact List.mem_append_left _ hz
    ·exact List.mem_append_right _ (List.mem_cons_of_mem _ hz)
  by_cases e : y.2 = r.2
  ·exact ⟨_, hmem _ (.inl rfl), e.symm⟩
  ·rcases List.mem_append.1 hy with hy | hy
   ·obtain ⟨x, hx, ex⟩ := (h y.2).2 ⟨y, hy, rfl⟩
    exact ⟨x, hmem _ (.inr ((hs x).2 ⟨hx, by rw [ex]; exact e⟩)), ex⟩
   ·exact absurd (by rw [List.mem_singleton.1 hy]) e
theorem mem_erase {es : List En} (hg : GoodE es) {i : Nat} {x : En} (h : es[i]? = some x) : ∀ y, y ∈ es.eraseIdx i ↔ y ∈ es ∧ y.1 ≠ x.1 := by
 intro y
 constructor
 ·exact fun hy => ⟨List.mem_of_mem_eraseIdx hy, other_text hg h y hy⟩
 ·rintro ⟨hy, hne⟩
  rw [split_at h] at hy
  rw [List.eraseIdx_eq_take_drop_succ]
  rcases List.mem_append.1 hy with hy | hy
  ·exact List.mem_append_left _ hy
  ·rcases List.mem_cons.1 hy with rfl | hy
   ·exact absurd rfl hne
   ·exact List.mem_append_right _ hy
structure GoodL (l : List Rt) : Prop where
 one : ∀ r ∈ l, wrongP r = 0
 two : l.Pairwise fun a b => clashP a b = 0
theorem GoodL.nil : GoodL [] := ⟨(fun r h => by cases h), List.Pairwise.nil⟩
theorem worst_zero {ahead : List Rt} {r : Rt} (h : worstP ahead r = 0) : ∀ x ∈ ahead, clashP x r = 0 := by
 rw [worst_eq] at h
 intro x hx
 rcases clash_codes x r with e | e | e
 ·rw [if_pos (List.any_eq_true.2 ⟨x, hx, decide_eq_true e⟩)] at h
  exact absurd h (by decide)
 ·split at h
  ·exact absurd h (by decide)
  ·rw [if_pos (List.any_eq_true.2 ⟨x, hx, decide_eq_true e⟩)] at h
   exact absurd h (by decide)
 ·exact e
theorem GoodL.snoc {l : List Rt} {r : Rt} (h : GoodL l) (h1 : wrongP r = 0) (h2 : worstP l r = 0) : GoodL (l ++ [r]) := by
 refine ⟨fun x hx => ?_, ?_⟩
 ·rcases List.mem_append.1 hx with hx | hx
  ·exact h.one x hx
  ·rw [List.mem_singleton.1 hx]; exact h1
 ·rw [List.pairwise_append]
  exact ⟨h.two, List.pairwise_singleton _ _, fun a ha b hb => by rw [List.mem_singleton.1 hb]; exact worst_zero h2 a ha⟩
theorem wrong_chk {r : Rt} (h : wrongP r = 0) : (checkP r.2).2 = 0 := by
 unfold wrongP at h
 split at h
 ·exact absurd h (by decide)
 ·rename_i h2
  exact Decidable.not_not.1 h2
theorem chk_split {s : ByteArray} (h : (checkP s).2 = 0) : (splitP s).2.2 = true := by
 cases e : (splitP s).2.2
 ·rw [chk_no e] at h; exact absurd h (by decide)
 ·rfl
theorem clash_ord {a b : Rt} (ha : wrongP a = 0) (hb : wrongP b = 0) (h : clashP a b = 0) (hne : a.2 ≠ b.2) : ordP (splitP a.2).1 (splitP b.2).1 ≠ 0 := by
 intro h0
 unfold clashP at h
 rw [if_pos hne, if_pos ?_] at h
 ·exact absurd h (by decide)
 ·unfold cmpR
  rw [if_pos ⟨chk_split (wrong_chk ha), chk_split (wrong_chk hb)⟩, h0]
def patB (l : List Rt) : Nat := (l.map fun r => r.2.size + 1).sum
theorem patB_snoc (l : List Rt) (r : Rt) : patB (l ++ [r]) = patB l + (r.2.size + 1) := by simp [patB]
theorem patB_le (l : List Rt) : patB l ≤ bulkRt l := by
 induction l with
 | nil => exact Nat.le_refl _
 | cons r l ih =>
  rw [bulkRt_cons]
  show r.2.size + 1 + patB l ≤ _
  unfold bulk1
  omega
theorem bulk_take (l : List Rt) (k : Nat) : bulkRt (l.take k) ≤ bulkRt l := by
 have h := bulkRt_append (l.take k) (l.drop k)
 rw [List.take_append_drop] at h
 omega
structure TableP (w : World) (t : Nat) (sl : Bool) (l : List Rt) (q : Nat) (es : List En) (S : Nat → Prop) (A : Option Addr) (c : Nat) (rs : List Ra) : Prop where
 low : t < w.heap.size
 c0 : w.cell? ⟨t, 0, none⟩ = some (.pointer (some ⟨q, 0, none⟩))
 c1 : w.cell? ⟨t, 1, none⟩ = some (.slice A rs.length c)
 c2 : w.cell? ⟨t, 2, none⟩ = some (.bool sl)
 tree : TreeAt S w q es
 good : GoodE es
 sum : sumE es ≤ 1048576
 row : Row w A (flatA rs)
 ok : AOk w rs
 pl : plA rs = l
 mem : MemE es l
 nums : ∀ x ∈ es, Row w x.2.2.2.1 (numsV (plc x.1 l)) ∧ x.2.2.2.2.1 = (plc x.1 l).length
 few : l.length ≤ 256
 bulk : bulkRt l ≤ 1048576
 goodl : GoodL l
def TableAt (w : World) (t : Nat) (sl : Bool) (l : List Rt) : Prop := ∃ q es S A c rs, TableP w t sl l q es S A c rs
theorem TableP.below {w w' : World} {t : Nat} {sl : Bool} {l : List Rt} {q : Nat} {es : List En} {S : Nat → Prop} {A : Option Addr} {c : Nat} {rs : List Ra} (h : TableP w t sl l q es S A c rs) (hb : Below w.heap.size w w') : TableP w' t sl l q es S A c rs :=
 { h with
  low := Nat.lt_of_lt_of_le h.low hb.size
  c0 := (hb.cell (p := ⟨t, 0, none⟩) h.low).trans h.c0
  c1 := (hb.cell (p := ⟨t, 1, none⟩) h.low).trans h.c1
  c2 := (hb.cell (p := ⟨t, 2, none⟩) h.low).trans h.c2
  tree := h.tree.below hb
  row := h.row.below hb
  ok := h.ok.below hb
  nums := fun x hx => ⟨(h.nums x hx).1.below hb, (h.nums x hx).2⟩ }
theorem TableAt.below {w w' : World} {t : Nat} {sl : Bool} {l : List Rt} (h : TableAt w t sl l) (hb : Below w.heap.size w w') : TableAt w' t sl l := by
 obtain ⟨q, es, S, A, c, rs, h⟩ := h
 exact ⟨q, es, S, A, c, rs, h.below hb⟩
theorem Mk.table {w0 w : World} {q tb B : Nat} {sl : Bool} {S : Nat → Prop} {l : List Rt} {es : List En} {vr : Value} {rs : List Ra} (h : Mk w0 w q tb sl B S l es vr rs) (hpl : plA rs = l) (hm : MemE es l) (hB : B ≤ 1048576) (hf : l.length ≤ 256) (hk : bulkRt l ≤ 1048576) (hg : GoodL l) : TableAt w tb sl l := by
 obtain ⟨A, c, rfl⟩ := own_slice h.row
 refine ⟨q, es, S, A, c, rs, ⟨h.tab.lt, ?_, ?_, ?_, h.tree.at_, h.tree.good, Nat.le_trans h.tree.sum hB, own_row h.row, fun x hx => ⟨own_row (h.met x hx), own_cap (h.met x hx)⟩, hpl, hm, fun x hx => ?_, hf, hk, hg⟩⟩
 ·rw [h.tab.cell 0]; rfl
 ·rw [h.tab.cell 1]; rfl
 ·rw [h.tab.cell 2]; rfl
 ·have ho := h.own x hx
  obtain ⟨A', c', e⟩ := own_slice ho
  unfold nv at e
  have e2 : x.2.2.2.2.1 = (plc x.1 l).length := by injection e
  refine ⟨?_, e2⟩
  unfold nv at ho
  rw [e2] at ho
  exact own_row ho
end Go.Proofs.YtiohmnhbmmhnhaaGreatDoor
namespace Go.Proofs.YtiohmnhbmmhnhaaGreatDoor
open Go.RowKit Go.Shelf Go.Lib
theorem results_tmp3 {fn : Func} {t u v : Tmp} (h : fn.results = #[.tmp t, .tmp u, .tmp v]) (tmps : Array Value) (P : Program) (w : World) :
  (results fn tmps).run P w = .ok (.tuple #[tmps.getD t undef, tmps.getD u undef, tmps.getD v undef]) w := by
 simp [results, h]
theorem below_step {w w1 w2 : World} {B : Nat} (h : Below B w w1) (h2 : Below w1.heap.size w1 w2) (hB : B ≤ w.heap.size) : Below B w w2 := h.trans (h2.mono (Nat.le_trans hB h.size))
theorem info_int : (Tryz.prog.info? 3).map (fun i => (i.zero, i.size, i.bytes)) = some (some (.int .i64 0), 1, 8) := by kernel_rfl
def GivesNew (w : World) (sl : Bool) (l : List Rt) (r : Nat × Int) (e : Ending) (w' : World) : Prop :=
 (¬ r.2 = 0 ∧ e = .returned (.tuple #[.pointer none, .int .i64 (r.1 : Nat), .int .i64 r.2]) ∧ Below w.heap.size w w') ∨
 (r = (0, 0) ∧ ∃ t : Nat, e = .returned (.tuple #[.pointer (some ⟨t, 0, none⟩), .int .i64 0, .int .i64 0]) ∧ w.heap.size ≤ t ∧ TableAt w' t sl l ∧ Below w.heap.size w w')
theorem gives_no {w w' : World} {sl : Bool} {l : List Rt} {r : Nat × Int} {i : Nat} {c : Int} (h : r = (i, c)) (hc : ¬ c = 0) (hb : Below w.heap.size w w') : GivesNew w sl l r (.returned (.tuple #[.pointer none, .int .i64 (i : Nat), .int .i64 c])) w' := by
 subst h
 exact .inl ⟨hc, rfl, hb⟩
theorem newGo_one {ahead rest : List Rt} {r : Rt} {i : Nat} (h : ¬ wrongP r = 0) : newGo ahead (r :: rest) i = (i, wrongP r) := by
 unfold newGo
 rw [if_pos h]
theorem newGo_two {ahead rest : List Rt} {r : Rt} {i : Nat} (h : wrongP r = 0) (h2 : ¬ worstP ahead r = 0) : newGo ahead (r :: rest) i = (i, worstP ahead r) := by
 unfold newGo
 rw [if_neg (fun k => k h), if_pos h2]
theorem newGo_on {ahead rest : List Rt} {r : Rt} {i : Nat} (h : wrongP r = 0) (h2 : worstP ahead r = 0) : newGo ahead (r :: rest) i = newGo (ahead ++ [r]) rest (i + 1) := by
 rw [newGo, if_neg (fun k => k h), if_neg (fun k => k h2)]
def worstTo (rs : List Rt) (r : Rt) (j : Nat) : Int := worstP (rs.take j) r
theorem worst_succ {rs : List Rt} {r y : Rt} {j : Nat} (h : rs[j]? = some y) : worstTo rs r (j + 1) = worseP (worstTo rs r j) (clashP y r) := by
 unfold worstTo worstP
 rw [take_snoc h, List.foldl_append]
 rfl
theorem worse_142 (x : Int) : worseP x 142 = 142 := by unfold worseP; rw [if_pos (.inl rfl)]
theorem worse_131 : worseP 0 131 = 131 := by unfold worseP; rw [if_pos (.inr ⟨rfl, rfl⟩)]
theorem worse_131n {x : Int} (h : ¬ x = 0) : worseP x 131 = x := by
 unfold worseP
 rw [if_neg (fun k => by
  rcases k with k | k
  ·exact absurd k (by decide)
  ·exact h k.2)]
theorem worse_0 (x : Int) : worseP x 0 = x := by
 unfold worseP
 rw [if_neg (fun k => by
  rcases k with k | k
  ·exact absurd k (by decide)
  ·exact absurd k.1 (by decide))]
def zTl : Tl := ⟨none, 0, 0, 0, ⟨#[]⟩, ⟨#[]⟩, ⟨#[]⟩, 0, 0⟩
set_option maxRecDepth 100000 in
set_option maxHeartbeats 8000000 in
theorem rtNew_any (A : Option Addr) (c : Nat) (la : List Ra) (sl : Bool) (w : World) (hr : Row w A (flatA la)) (hm : AOk w la) (hk : bulkRt (plA la) ≤ 1048576) (hg : GlobR w) :
  Calls Tryz.prog 13 #[.slice A la.length c, .bool sl] w (GivesNew w sl (plA la) (newP (plA la))) := by
 obtain ⟨j0, hj0, hy0, hy1, hy2⟩ := info_parts info_int
 obtain ⟨r0, hr0, hv0, hv1, hv2⟩ := info_parts info_route
 have hlen4 := bulkRt_len (plA la)
 rw [plA_length] at hlen4
 obtain ⟨l, hl⟩ : ∃ l, plA la = l := ⟨_, rfl⟩
 obtain ⟨res, hres⟩ : ∃ res, newP l = res := ⟨_, rfl⟩
 have HLL := Lib.hid (show l.length = la.length by rw [← hl, plA_length])
 rw [hl] at hk ⊢
 rw [hres]
 have HPL := Lib.hid hl
 have HRES := Lib.hid hres
 have HK := Lib.hid hk
 have HR := Lib.hid (fun (W : World) (h : Below w.heap.size w W) => hr.below h)
 have HM := Lib.hid (fun (W : World) (h : Below w.heap.size w W) => hm.below h)
 have HG := Lib.hid (fun (W : World) (h : Below w.heap.size w W) => hg.beyond h)
 clear hl hres hk hr hm hg
 by_cases h256 : 256 < la.length
 ·have hi : (256 : Int) < (la.length : Int) := by omega
  have HV := Lib.hid (show res = (256, 140) by rw [← HRES.out]; unfold newP; rw [if_pos (by rw [HLL.out]; exact h256)])
  go_enter Tryz.func13, Tryz.ntmps13
  go_wp2
  refine bodyPost_ret (results_tmp3 rfl _ _ _) rfl ?_
  exact gives_no HV.out (by decide) (Below.refl _ _)
 have hi : ¬ (256 : Int) < (la.length : Int) := by omega
 have hle : la.length ≤ 256 := by omega
 have HNP := Lib.hid (show res = newGo [] l 0 by rw [← HRES.out]; unfold newP; rw [if_neg (by rw [HLL.out]; exact h256)])
 clear h256 HRES
 go_enter Tryz.func13, Tryz.ntmps13
 go_wp2_with fail
 refine (New_any w).mono ?_
 rintro e w1 ⟨rfl, hT, hb1, hz1⟩
 have hb2 := hb1.alloc hb1.size (.cells #[.pointer (some ⟨w.heap.size + 1, 0, none⟩), .slice none 0 0, .bool sl] 84)
 have hMk : Mk w (w1.alloc (.cells #[.pointer (some ⟨w.heap.size + 1, 0, none⟩), .slice none 0 0, .bool sl] 84)) (w.heap.size + 1) w1.heap.size sl 0 (fun b => b = w.heap.size) [] [] (.slice none 0 0) [] := {
  tree := ⟨hT.below ((Below.refl _ _).alloc (Nat.le_refl _) _), GoodE.nil, Nat.le_refl _, by omega, fun b hb => by subst hb; simp; omega⟩
  own := fun x hx => by cases hx
  apart := List.Pairwise.nil
  tab := Blk.new _ _ _
  tlow := by omega
  row := World.ownsRow_nil _ _ _ _
  met := fun x hx => by cases hx
  otb := ⟨by omega, by omega⟩
  orow := fun b hb => by simp [Value.ownBlock] at hb
  omet := fun x hx => by cases hx
  onum := fun x hx => by cases hx
  base := hb2 }
 have HMK := Lib.hid hMk
 obtain ⟨q, hq⟩ : ∃ q : Nat, q = w.heap.size + 1 := ⟨_, rfl⟩
 have htb : w.heap.size ≤ w1.heap.size := by omega
 clear hMk hT hb2 hb1 hz1
 go_wp2
 rw [← hq] at HMK
 rw [← hq]
 obtain ⟨tb, htbe⟩ : ∃ tb : Nat, tb = w1.heap.size := ⟨_, rfl⟩
 rw [← htbe] at HMK htb
 rw [← htbe]
 generalize w1.alloc (.cells #[.pointer (some ⟨q, 0, none⟩), .slice none 0 0, .bool sl] 84) = w2 at *
 clear hq htbe w1
 go_loopw [27] (fun i wr => ∃ (k : Nat) (S : Nat → Prop) (es : List En) (vr : Value) (rs : List Ra), k ≤ la.length ∧ i = .int .i64 k ∧ Hid (Mk w wr q tb sl (patB (l.take k)) S (l.take k) es vr rs) ∧ Hid (plA rs = l.take k) ∧ Hid (MemE es (l.take k)) ∧ Hid (res = newGo (l.take k) (l.drop k) k) ∧ Hid (GoodL (l.take k))) (fun i _ => la.length - (RowKit.intOf i).toNat)
 case atStart => exact ⟨0, _, [], _, [], by omega, rfl, HMK, Lib.hid rfl, Lib.hid (fun p => by simp), HNP, Lib.hid GoodL.nil⟩
 case round =>
  obtain ⟨k, S, es, vr, rs, hkl, rfl, HMk, HPr, HME, HN, HGL⟩ := hrel
  by_cases hlt : k < la.length
  ·obtain ⟨x, hx⟩ := some_of_lt hlt
   have HLK := Lib.hid (show l[k]? = some x.1.2 by rw [← HPL.out]; exact plA_get hx)
   have HSX := Lib.hid (slim_mem HK.out (List.mem_of_getElem? HLK.out))
   have HMX := Lib.hid (fun (W : World) (h : Below w.heap.size w W) => HM.out W h x (List.mem_of_getElem? hx))
   obtain ⟨b, off, rfl, hbl, f0, f1, f2, f3, f4, f5, f6, f7, f8⟩ := (HR.out wr HMk.out.base).ra hx
   have HSL := Lib.hid (show l.drop k = x.1.2 :: l.drop (k + 1) from drop_some HLK.out)
   have hki : (k : Int) < (la.length : Int) := by omega
   clear hx
   obtain ⟨⟨⟨MA, mc⟩, ml, p⟩, XT⟩ := x
   dsimp only at f0 f1 f2 f3 f4 f5 f6 f7 f8 HLK HSX HMX HSL
   have hbw1 := HMk.out.base.alloc HMk.out.base.size (.cells #[.slice MA ml.length mc, .string p, .slice XT.A XT.n XT.c, .int .i64 XT.k, .string XT.x, .string XT.y, .string XT.z, .int .i64 XT.s, .int .i64 XT.m] 38)
   have HWR := Lib.hid (wrong_any ((MA, mc), ml, p) XT (wr.alloc (.cells #[.slice MA ml.length mc, .string p, .slice XT.A XT.n XT.c, .int .i64 XT.k, .string XT.x, .string XT.y, .string XT.z, .int .i64 XT.s, .int .i64 XT.m] 38)) (HMX.out _ hbw1) HSX.out (HG.out _ hbw1))
   have HMk1 := Lib.hid (HMk.out.below ((Below.refl _ _).alloc (Nat.le_refl _) (.cells #[.slice MA ml.length mc, .string p, .slice XT.A XT.n XT.c, .int .i64 XT.k, .string XT.x, .string XT.y, .string XT.z, .int .i64 XT.s, .int .i64 XT.m] 38)))
   have hN0 : Blk (wr.alloc (.cells #[.slice MA ml.length mc, .string p, .slice XT.A XT.n XT.c, .int .i64 XT.k, .string XT.x, .string XT.y, .string XT.z, .int .i64 XT.s, .int .i64 XT.m] 38)) wr.heap.size 38 #[.slice MA ml.length mc, .string p, .slice XT.A XT.n XT.c, .int .i64 XT.k, .string XT.x, .string XT.y, .string XT.z, .int .i64 XT.s, .int .i64 XT.m] := Blk.new _ _ _
   have HN0 := Lib.hid hN0
   have HNV := Lib.hid (fun (bb : Nat) (hbb : vr.ownBlock = some bb) => (show bb ≠ wr.heap.size from fun e => by have := own_blt HMk.out.row bb hbb; omega))
   have HTN := Lib.hid (show tb ≠ wr.heap.size from fun e => by have := HMk.out.tab.lt; omega)
   have HNQ := Lib.hid (show q ≠ wr.heap.size from fun e => by have := HMk.out.tree.at_.lt; omega)
   clear hbw1 hN0
   dsimp only at HWR
   obtain ⟨wp, hwp⟩ : ∃ wp, wrongP (ml, p) = wp := ⟨_, rfl⟩
   rw [hwp] at HWR
   have HWP := Lib.hid hwp
   clear hwp
   go_wp2_with fail
   obtain ⟨nb, hnb⟩ : ∃ nb : Nat, nb = wr.heap.size := ⟨_, rfl⟩
   obtain ⟨wa, hwa⟩ : ∃ wa : World, wa = wr.alloc (.cells #[.slice MA ml.length mc, .string p, .slice XT.A XT.n XT.c, .int .i64 XT.k, .string XT.x, .string XT.y, .string XT.z, .int .i64 XT.s, .int .i64 XT.m] 38) := ⟨_, rfl⟩
   have c0 := HN0.out.cell 0
   have c1 := HN0.out.cell 1
   have c2 := HN0.out.cell 2
   have c3 := HN0.out.cell 3
   have c4 := HN0.out.cell 4
   have c5 := HN0.out.cell 5
   have c6 := HN0.out.cell 6
   have c7 := HN0.out.cell 7
   have c8 := HN0.out.cell 8
   rw [← hwa] at HWR HMk1 HN0
   rw [← hnb] at HN0 HNV HTN HNQ
   rw [← hwa, ← hnb]
   clear hnb hbl c0 c1 c2 c3 c4 c5 c6 c7 c8 f0 f1 f2 f3 f4 f5 f6 f7 f8 hwa
   refine HWR.out.mono ?_
   rintro e w3 ⟨rfl, hb3⟩
   have HMk3 := Lib.hid (HMk1.out.below hb3)
   have HN3 := Lib.hid (HN0.out.below hb3 HN0.out.lt)
   clear hb3 HWR HMk1 HN0 HMk
   by_cases hw0 : wp = 0
   ·subst hw0
    have n0 : w3.cell? ⟨nb, 0, none⟩ = some (.slice MA ml.length mc) := HN3.out.cell 0
    have n1 : w3.cell? ⟨nb, 1, none⟩ = some (.string p) := HN3.out.cell 1
    have hnl3 : nb < w3.heap.size := HN3.out.lt
    have HPL2 := Lib.hid (show rs.length = (l.take k).length by rw [← HPr.out, plA_length])
    obtain ⟨RA, rc, rfl⟩ := own_slice HMk3.out.row
    have htl3 : tb < w3.heap.size := HMk3.out.tab.lt
    have q1 : w3.cell? ⟨tb, 1, none⟩ = some (.slice RA rs.length rc) := HMk3.out.tab.cell 1
    have hrl : rs.length ≤ 256 := by rw [HPL2.out, List.length_take]; omega
    go_wp2
    go_loopw [11, 43] (fun e i wx => ∃ (j : Nat) (o : Int), j ≤ rs.length ∧ i = .int .i64 j ∧ e = .int .i64 o ∧ Hid (o = worstTo (l.take k) (ml, p) j) ∧ Hid (Below w3.heap.size w3 wx)) (fun _ i _ => rs.length - (RowKit.intOf i).toNat)
    case atStart => exact ⟨0, 0, by omega, rfl, rfl, Lib.hid rfl, Lib.hid (Below.refl _ _)⟩
    case round =>
     obtain ⟨j, o, hj, rfl, rfl, HO, HBX⟩ := hrel
     by_cases hjl : j < rs.length
     ·obtain ⟨y, hy⟩ := some_of_lt hjl
      have HYL := Lib.hid (show (l.take k)[j]? = some y.1.2 by rw [← HPr.out]; exact plA_get hy)
      have hyl : y.1.2 ∈ l := List.mem_of_mem_take (List.mem_of_getElem? HYL.out)
      have HSY := Lib.hid (slim_mem HK.out hyl)
      have HYM : Hid (MOne w3 y.1) := Lib.hid ⟨own_row (HMk3.out.met y (List.mem_of_getElem? hy)), own_cap (HMk3.out.met y (List.mem_of_getElem? hy))⟩
      obtain ⟨b2, off2, rfl, hb2l, g0, g1, g2, g3, g4, g5, g6, g7, g8⟩ := ((own_row HMk3.out.row).below HBX.out).ra hy
      have HNX := Lib.hid (HN3.out.below HBX.out HN3.out.lt)
      have m0 : wr.cell? ⟨nb, 0, none⟩ = some (.slice MA ml.length mc) := HNX.out.cell 0
      have m1 : wr.cell? ⟨nb, 1, none⟩ = some (.string p) := HNX.out.cell 1
      have m2 : wr.cell? ⟨nb, 2, none⟩ = some (.slice XT.A XT.n XT.c) := HNX.out.cell 2
      have m3 : wr.cell? ⟨nb, 3, none⟩ = some (.int .i64 XT.k) := HNX.out.cell 3
      have m4 : wr.cell? ⟨nb, 4, none⟩ = some (.string XT.x) := HNX.out.cell 4
      have m5 : wr.cell? ⟨nb, 5, none⟩ = some (.string XT.y) := HNX.out.cell 5
      have m6 : wr.cell? ⟨nb, 6, none⟩ = some (.string XT.z) := HNX.out.cell 6
      have m7 : wr.cell? ⟨nb, 7, none⟩ = some (.int .i64 XT.s) := HNX.out.cell 7
      have m8 : wr.cell? ⟨nb, 8, none⟩ = some (.int .i64 XT.m) := HNX.out.cell 8
      have hnlx : nb < wr.heap.size := HNX.out.lt
      have hji : (j : Int) < (rs.length : Int) := by omega
      clear hy hyl
      obtain ⟨⟨⟨YA, yc⟩, yl, yp⟩, YT⟩ := y
      dsimp only at g0 g1 g2 g3 g4 g5 g6 g7 g8 HYL HSY HYM
      have hbx1 := HBX.out.alloc HBX.out.size (.cells #[.slice YA yl.length yc, .string yp, .slice YT.A YT.n YT.c, .int .i64 YT.k, .string YT.x, .string YT.y, .string YT.z, .int .i64 YT.s, .int .i64 YT.m] 38)
      have HC := Lib.hid (clash_any ((YA, yc), yl, yp) ((MA, mc), ml, p) YT XT (wr.alloc (.cells #[.slice YA yl.length yc, .string yp, .slice YT.A YT.n YT.c, .int .i64 YT.k, .string YT.x, .string YT.y, .string YT.z, .int .i64 YT.s, .int .i64 YT.m] 38)) ⟨HYM.out.1.below hbx1, HYM.out.2⟩ (HMX.out _ (HMk3.out.base.trans (hbx1.mono HMk3.out.base.size))) HSY.out HSX.out)
      have HB1 := Lib.hid hbx1
      have HWS := Lib.hid (worst_succ (rs := l.take k) (r := (ml, p)) (j := j) HYL.out)
      clear hbx1
      dsimp only at HC
      have hcv := clash_codes (yl, yp) (ml, p)
      obtain ⟨cv, hcve⟩ : ∃ cv, clashP (yl, yp) (ml, p) = cv := ⟨_, rfl⟩
      rw [hcve] at hcv HC HWS
      rw [← HO.out] at HWS
      clear hcve
      rcases hcv with rfl | rfl | rfl
      ·have HO2 := Lib.hid (show (142 : Int) = worstTo (l.take k) (ml, p) (j + 1) by rw [HWS.out, worse_142])
       clear HWS HO
       go_wp2_with fail
       refine HC.out.mono ?_
       rintro e w4 ⟨rfl, hb4⟩
       have HB4 := Lib.hid (HB1.out.trans (hb4.mono HB1.out.size))
       clear hb4
       go_wp2
       go_roundw
       case rel => exact ⟨j + 1, 142, by omega, by go_num, rfl, HO2, HB4⟩
       case measure => simp [RowKit.intOf]; omega
      ·by_cases ho0 : o = 0
       ·subst ho0
        have HO2 := Lib.hid (show (131 : Int) = worstTo (l.take k) (ml, p) (j + 1) by rw [HWS.out, worse_131])
        clear HWS HO
        go_wp2_with fail
        refine HC.out.mono ?_
        rintro e w4 ⟨rfl, hb4⟩
        have HB4 := Lib.hid (HB1.out.trans (hb4.mono HB1.out.size))
        clear hb4
        go_wp2
        go_roundw
        case rel => exact ⟨j + 1, 131, by omega, by go_num, rfl, HO2, HB4⟩
        case measure => simp [RowKit.intOf]; omega
       ·have hoe : (o == 0) = false := by simpa using ho0
        have HO2 := Lib.hid (show o = worstTo (l.take k) (ml, p) (j + 1) by rw [HWS.out, worse_131n ho0])
        clear HWS HO ho0
        go_wp2_with fail
        refine HC.out.mono ?_
        rintro e w4 ⟨rfl, hb4⟩
        have HB4 := Lib.hid (HB1.out.trans (hb4.mono HB1.out.size))
        clear hb4
        go_wp2
        go_roundw
        case rel => exact ⟨j + 1, o, by omega, by go_num, rfl, HO2, HB4⟩
        case measure => simp [RowKit.intOf]; omega
      ·have HO2 := Lib.hid (show o = worstTo (l.take k) (ml, p) (j + 1) by rw [HWS.out, worse_0])
       clear HWS HO
       go_wp2_with fail
       refine HC.out.mono ?_
       rintro e w4 ⟨rfl, hb4⟩
       have HB4 := Lib.hid (HB1.out.trans (hb4.mono HB1.out.size))
       clear hb4
       go_wp2
       go_roundw
       case rel => exact ⟨j + 1, o, by omega, by go_num, rfl, HO2, HB4⟩
       case measure => simp [RowKit.intOf]; omega
     ·obtain rfl : j = rs.length := by omega
      have HW := Lib.hid (show o = worstP (l.take k) (ml, p) by rw [HO.out]; unfold worstTo; rw [HPL2.out, List.take_length])
      have HMx := Lib.hid (HMk3.out.below HBX.out)
      have HNx := Lib.hid (HN3.out.below HBX.out HN3.out.lt)
      clear HO HMk3 HN3 n0 n1 q1 hjl
      by_cases ho0 : o = 0
      ·subst ho0
       have HGL2 := Lib.hid (HGL.out.snoc HWP.out HW.out.symm)
       have HNN := Lib.hid (show res = newGo (l.take k ++ [(ml, p)]) (l.drop (k + 1)) (k + 1) by rw [HN.out, HSL.out, newGo_on HWP.out HW.out.symm])
       clear HW HGL
       have HSC := Lib.hid (fun (w' : World) (h : Below wr.heap.size wr w') => (⟨(HMx.out.tab.below h HMx.out.tab.lt).cell 1, (HNx.out.below h HNx.out.lt).cell 0, (HNx.out.below h HNx.out.lt).cell 1⟩ : w'.cell? ⟨tb, 1, none⟩ = some (.slice RA rs.length rc) ∧ w'.cell? ⟨nb, 0, none⟩ = some (.slice MA ml.length mc) ∧ w'.cell? ⟨nb, 1, none⟩ = some (.string p)))
       have HCL := Lib.hid (fun (W : World) (h : Below wr.heap.size wr W) => CloneS_any MA mc ml W (HMX.out W (HMx.out.base.trans (h.mono HMx.out.base.size))).1 HSX.out.num)
       have HCT := Lib.hid (fun (W : World) => CloneT_any p W (by have := HSX.out.pat; dsimp only at this; omega))
       have HMF := Lib.hid (fun (x' : Ra) (hx' : x'.1.2 = (ml, p)) => (show plA (rs ++ [x']) = l.take k ++ [(ml, p)] by rw [plA_append, HPr.out]; show _ ++ [x'.1.2] = _; rw [hx']))
       clear HPr
       go_upto_region 20 with (fail)
       go_cut [] (fun wc => ∃ (vr' : Value) (x' : Ra), Hid (Mk w wc q tb sl (patB (l.take k)) S (l.take k) es vr' (rs ++ [x'])) ∧ Hid (x'.1.2 = (ml, p)) ∧ Hid (Blk wc nb 38 #[.slice MA ml.length mc, .string p, .slice XT.A XT.n XT.c, .int .i64 XT.k, .string XT.x, .string XT.y, .string XT.z, .int .i64 XT.s, .int .i64 XT.m]))
       case first =>
        obtain ⟨s0, s1, s2⟩ := HSC.out _ (below_drew (Below.refl wr.heap.size wr))
        have hS0 : wr.drew.cell? ⟨tb, 1, none⟩ = some (.slice RA rs.length rc) ∧ wr.drew.cell? ⟨nb, 0, none⟩ = some (.slice MA ml.length mc) ∧ wr.drew.cell? ⟨nb, 1, none⟩ = some (.string p) := ⟨s0, s1, s2⟩
        refine region_T (t := 16) (S := fun w' => w'.cell? ⟨tb, 1, none⟩ = some (.slice RA rs.length rc) ∧ w'.cell? ⟨nb, 0, none⟩ = some (.slice MA ml.length mc) ∧ w'.cell? ⟨nb, 1, none⟩ = some (.string p)) (by kernel_rfl) hS0 (fun hHeld => ?_)
        refine' anyT_take (i := 0) (v := _) rfl (by kernel_rfl) (by kernel_rfl) (by kernel_rfl) (by kernel_rfl) (by rfl) (fun _ _ _ h => h) (Or.inl ⟨by rfl, ?h1y⟩) hHeld ?h1r
        case h1y => (intro w hSw; (try dsimp only at hSw); (try simp only [List.getElem_toArray, List.getElem_cons_zero]); go_simp; try (with_reducible rfl))
        (try simp only [List.getElem_toArray, List.getElem_cons_zero, Act.put, List.setIfInBounds_toArray, List.set_cons_zero, List.set_cons_succ])
        refine' anyT_take (i := 1) (v := _) rfl (by kernel_rfl) (by kernel_rfl) (by kernel_rfl) (by kernel_rfl) (by rfl) (fun _ _ _ h => h) (Or.inl ⟨by rfl, ?h2y⟩) hHeld ?h2r
        case h2y => (intro w hSw; (try dsimp only at hSw); (try simp only [List.getElem_toArray, List.getElem_cons_succ, List.getElem_cons_zero]); go_simp; try (with_reducible rfl))
        (try simp only [List.getElem_toArray, List.getElem_cons_succ, List.getElem_cons_zero, Act.put, List.setIfInBounds_toArray, List.set_cons_zero, List.set_cons_succ])
        refine' anyT_take (i := 2) (v := _) rfl (by kernel_rfl) (by kernel_rfl) (by kernel_rfl) (by kernel_rfl) (by rfl) (fun _ _ _ h => h) (Or.inl ⟨by rfl, ?h3y⟩) hHeld ?h3r
        case h3y => (intro w hSw; (try dsimp only at hSw); (try simp only [List.getElem_toArray, List.getElem_cons_succ, List.getElem_cons_zero]); go_simp; try (with_reducible rfl))
        (try simp only [List.getElem_toArray, List.getElem_cons_succ, List.getElem_cons_zero, Act.put, List.setIfInBounds_toArray, List.set_cons_zero, List.set_cons_succ])
        refine' anyT_take (i := 3) (v := _) rfl (by kernel_rfl) (by kernel_rfl) (by kernel_rfl) (by kernel_rfl) (by rfl) (fun _ _ _ h => h) (Or.inl ⟨by rfl, ?h4y⟩) hHeld ?h4r
        case h4y => (intro w hSw; (try dsimp only at hSw); (try simp only [List.getElem_toArray, List.getElem_cons_succ, List.getElem_cons_zero]); go_simp; try (with_reducible rfl))
        (try simp only [List.getElem_toArray, List.getElem_cons_succ, List.getElem_cons_zero, Act.put, List.setIfInBounds_toArray, List.set_cons_zero, List.set_cons_succ])
        refine' anyT_take (i := 4) (v := _) rfl (by kernel_rfl) (by kernel_rfl) (by kernel_rfl) (by kernel_rfl) (by rfl) (fun _ _ _ h => h) (Or.inl ⟨by rfl, ?h5y⟩) hHeld ?h5r
        case h5y => (intro w hSw; (try dsimp only at hSw); obtain ⟨s0, s1, s2⟩ := hSw; (try simp only [List.getElem_toArray, List.getElem_cons_succ, List.getElem_cons_zero]); go_simp; try (with_reducible rfl))
        (try simp only [List.getElem_toArray, List.getElem_cons_succ, List.getElem_cons_zero, Act.put, List.setIfInBounds_toArray, List.set_cons_zero, List.set_cons_succ])
        refine' anyT_take (i := 5) (v := _) rfl (by kernel_rfl) (by kernel_rfl) (by kernel_rfl) (by kernel_rfl) (by rfl) (fun _ _ _ h => h) (Or.inl ⟨by rfl, ?h6y⟩) hHeld ?h6r
        case h6y => (intro w hSw; (try dsimp only at hSw); (try simp only [List.getElem_toArray, List.getElem_cons_succ, List.getElem_cons_zero]); go_simp; try (with_reducible rfl))
        (try simp only [List.getElem_toArray, List.getElem_cons_succ, List.getElem_cons_zero, Act.put, List.setIfInBounds_toArray, List.set_cons_zero, List.set_cons_succ])
        refine' anyT_take (i := 6) (v := _) rfl (by kernel_rfl) (by kernel_rfl) (by kernel_rfl) (by kernel_rfl) (by rfl) (fun _ _ _ h => h) (Or.inl ⟨by rfl, ?h7y⟩) hHeld ?h7r
        case h7y => (intro w hSw; (try dsimp only at hSw); obtain ⟨s0, s1, s2⟩ := hSw; (try simp only [List.getElem_toArray, List.getElem_cons_succ, List.getElem_cons_zero]); go_simp; try (with_reducible rfl))
        (try simp only [List.getElem_toArray, List.getElem_cons_succ, List.getElem_cons_zero, Act.put, List.setIfInBounds_toArray, List.set_cons_zero, List.set_cons_succ])
        refine' anyT_take (i := 8) (v := _) rfl (by kernel_rfl) (by kernel_rfl) (by kernel_rfl) (by kernel_rfl) (by rfl) (fun _ _ _ h => h) (Or.inl ⟨by rfl, ?h8y⟩) hHeld ?h8r
        case h8y => (intro w hSw; (try dsimp only at hSw); (try simp only [List.getElem_toArray, List.getElem_cons_succ, List.getElem_cons_zero]); go_simp; try (with_reducible rfl))
        (try simp only [List.getElem_toArray, List.getElem_cons_succ, List.getElem_cons_zero, Act.put, List.setIfInBounds_toArray, List.set_cons_zero, List.set_cons_succ])
        refine' anyT_take (i := 9) (v := _) rfl (by kernel_rfl) (by kernel_rfl) (by kernel_rfl) (by kernel_rfl) (by rfl) (fun _ _ _ h => h) (Or.inl ⟨by rfl, ?h9y⟩) hHeld ?h9r
        case h9y => (intro w hSw; (try dsimp only at hSw); obtain ⟨s0, s1, s2⟩ := hSw; (try simp only [List.getElem_toArray, List.getElem_cons_succ, List.getElem_cons_zero]); go_simp; try (with_reducible rfl))
        (try simp only [List.getElem_toArray, List.getElem_cons_succ, List.getElem_cons_zero, Act.put, List.setIfInBounds_toArray, List.set_cons_zero, List.set_cons_succ])
        refine anyT_ready (rs := [7]) (by kernel_rfl) (by simp) ?_
        refine AllReadyT.cons rfl (fun K hK => ?_) AllReadyT.nil
        go_simp
        go_at_call 36
        refine (HCL.out _ (below_drew (Below.refl wr.heap.size wr))).mono ?_
        rintro e w5 ⟨CA, cc, rfl, ho5, hb5⟩
        have hB5 : Below wr.heap.size wr w5 := below_step (below_drew (Below.refl wr.heap.size wr)) hb5 (Nat.le_refl _)
        (try go_wp2_with fail)
        refine hK.out _ _ (.inr (HSC.out _ hB5)) (fun _ => ?_)
        clear hK K
        (try simp only [List.getElem_toArray, List.getElem_cons_succ, List.getElem_cons_zero, Act.put, List.setIfInBounds_toArray, List.set_cons_zero, List.set_cons_succ])
        refine anyT_ready (rs := [10]) (by kernel_rfl) (by simp) ?_
        refine AllReadyT.cons rfl (fun K hK => ?_) AllReadyT.nil
        go_simp
        go_at_call 37
        refine (HCT.out _).mono ?_
        rintro e w6 ⟨rfl, hb6⟩
        have hB6 : Below wr.heap.size wr w6 := below_step hB5 hb6 (Nat.le_refl _)
        have hoM := own_below ho5 hb6
        (try go_wp2_with fail)
        refine hK.out _ _ (.inr (HSC.out _ hB6)) (fun _ => ?_)
        clear hK K
        (try simp only [List.getElem_toArray, List.getElem_cons_succ, List.getElem_cons_zero, Act.put, List.setIfInBounds_toArray, List.set_cons_zero, List.set_cons_succ])
        refine' anyT_take0 (i := 11) (v := _) rfl (by kernel_rfl) (by kernel_rfl) (by kernel_rfl) (by decide) (fun _ _ _ h => h) (Or.inl ⟨by rfl, ?h10y⟩) (HSC.out _ hB6) ?h10r
        case h10y => (intro w hSw; (try dsimp only at hSw); (try simp only [List.getElem_toArray, List.getElem_cons_succ, List.getElem_cons_zero]); go_simp; try (with_reducible rfl))
        (try simp only [List.getElem_toArray, List.getElem_cons_succ, List.getElem_cons_zero, Act.put, List.setIfInBounds_toArray, List.set_cons_zero, List.set_cons_succ])
        have hoL := own_less hoM (show w.heap.size ≤ _ from Nat.le_trans HMx.out.base.size (by first | exact (below_drew (Below.refl wr.heap.size wr)).size | exact hB5a.size))
        have hoN : ∀ bb, (mv (((CA, cc), ml, p), zTl)).ownBlock = some bb → wr.heap.size ≤ bb := fun bb hbb => Nat.le_trans (by first | exact (below_drew (Below.refl wr.heap.size wr)).size | exact hB5a.size) (own_lt hoM bb hbb)
        clear hoM ho5 hb5
        refine anyT_ready (rs := [12]) (by kernel_rfl) (by simp) ?_
        refine AllReadyT.cons rfl (fun K hK => ?_) AllReadyT.nil
        go_simp
        have hB7 : Below wr.heap.size wr (w6.alloc (.cells (raV (((CA, cc), ml, p), zTl)).toArray 38)) := hB6.alloc hB6.size _
        refine hK.out _ _ (.inr (HSC.out _ hB7)) (fun _ => ?_)
        clear hK K
        (try simp only [List.getElem_toArray, List.getElem_cons_succ, List.getElem_cons_zero, Act.put, List.setIfInBounds_toArray, List.set_cons_zero, List.set_cons_succ])
        refine anyT_ready (rs := [13]) (by kernel_rfl) (by simp) ?_
        refine AllReadyT.cons rfl (fun K hK => ?_) AllReadyT.nil
        have HM7 := Lib.hid (HMx.out.below hB7)
        refine step_append_any _ rfl (.tmp 70) (.tmp 78) 22 rfl w.heap.size 38 r0 (.agg #[.slice none 0 0, .string ⟨#[]⟩, .slice none 0 0, .int .i64 0, .string ⟨#[]⟩, .string ⟨#[]⟩, .string ⟨#[]⟩, .int .i64 0, .int .i64 0]) 9 136 Tryz.underlying22 hr0 hv0 hv1 hv2 rfl (by decide) _ rs.length (flatA rs) (by rfl) HM7.out.row _ (some ⟨w6.heap.size, 0, none⟩) 1 1 (raV (((CA, cc), ml, p), zTl)) (by rfl) (reads_of_row (row_newc w6 _ _ rfl) rfl (by decide)) (by intro u hu; simp [raV] at hu; rcases hu with rfl | rfl | rfl | rfl | rfl | rfl | rfl | rfl | rfl <;> rfl) (by unfold maxLen; omega) (by omega) (Nat.le_trans HMx.out.base.size hB7.size) ?_
        intro kv w7 hown7 hg7 alt7
        have HTB := Lib.hid (HM7.out.tab.grown hg7 (fun e => own_blk_ne HM7.out.row HM7.out.tab (by decide) e.symm))
        have HN7 := Lib.hid ((HNx.out.below hB7 HNx.out.lt).grown hg7 (fun e => HNV.out nb e.symm rfl))
        obtain ⟨KB, kb, rfl⟩ := own_slice hown7
        have t7c : w7.cell? ⟨tb, 1, none⟩ = some (.slice RA rs.length rc) := HTB.out.cell 1
        have t7f : w7.frozen? ⟨tb, 1, none⟩ = false := HTB.out.frozen 1
        have hS7 : w7.cell? ⟨tb, 1, none⟩ = some (.slice RA rs.length rc) ∧ w7.cell? ⟨nb, 0, none⟩ = some (.slice MA ml.length mc) ∧ w7.cell? ⟨nb, 1, none⟩ = some (.string p) := ⟨t7c, HN7.out.cell 0, HN7.out.cell 1⟩
        refine hK.out _ _ (.inr hS7) (fun _ => ?_)
        clear hK K
        (try simp only [List.getElem_toArray, List.getElem_cons_succ, List.getElem_cons_zero, Act.put, List.setIfInBounds_toArray, List.set_cons_zero, List.set_cons_succ])
        refine' anyT_take0 (i := 14) (v := _) rfl (by kernel_rfl) (by kernel_rfl) (by kernel_rfl) (by decide) (fun _ _ _ h => h) (Or.inl ⟨by rfl, ?h11y⟩) hS7 ?h11r
        case h11y => (intro w hSw; (try dsimp only at hSw); (try simp only [List.getElem_toArray, List.getElem_cons_succ, List.getElem_cons_zero]); go_simp; try (with_reducible rfl))
        (try simp only [List.getElem_toArray, List.getElem_cons_succ, List.getElem_cons_zero, Act.put, List.setIfInBounds_toArray, List.set_cons_zero, List.set_cons_succ])
        refine' anyT_take0 (i := 15) (v := _) rfl (by kernel_rfl) (by kernel_rfl) (by kernel_rfl) (by decide) (fun _ _ _ h => h) (Or.inl ⟨by rfl, ?h12y⟩) hS7 ?h12r
        case h12y => (intro w hSw; (try dsimp only at hSw); (try simp only [List.getElem_toArray, List.getElem_cons_succ, List.getElem_cons_zero]); go_simp; try (with_reducible rfl))
        (try simp only [List.getElem_toArray, List.getElem_cons_succ, List.getElem_cons_zero, Act.put, List.setIfInBounds_toArray, List.set_cons_zero, List.set_cons_succ])
        refine anyT_ready (rs := [16]) (by kernel_rfl) (by simp) ?_
        refine AllReadyT.cons rfl (fun K hK => ?_) AllReadyT.nil
        go_simp
        refine hK.out _ _ (.inl (by rfl)) (fun _ => ?_)
        clear hK K
        (try simp only [List.getElem_toArray, List.getElem_cons_succ, List.getElem_cons_zero, Act.put, List.setIfInBounds_toArray, List.set_cons_zero, List.set_cons_succ])
        refine anyT_done (by kernel_rfl) ?_ _
        have hown8 : w7.ownsRow w.heap.size 38 9 (.slice KB (rs.length + 1) kb) (rs ++ [((((CA, cc), ml, p), zTl) : Ra)]).length (flatA (rs ++ [((((CA, cc), ml, p), zTl) : Ra)])) := by rw [flatA_append, List.length_append]; exact hown7
        have HP8 := Lib.hid (HMx.out.push hB7 (x := (((CA, cc), ml, p), zTl)) (own_below hoL ((Below.refl _ _).alloc (Nat.le_refl _) _)) hoN hg7 hown8 alt7)
        have HN8 := Lib.hid (HN7.out.far (p := ⟨tb, 1, none⟩) (fun e => HTN.out e.symm) (.slice KB (rs.length + 1) kb))
        clear hown7 hown8 alt7 hg7 hoL hoN t7c t7f hS7 s0 s1 s2 hS0 hHeld HM7 HTB HN7
        go_wp2_with (fail)
        go_meet
        exact ⟨_, _, HP8, Lib.hid rfl, HN8⟩
       obtain ⟨vr', x', HM2, HX', HN2⟩ := hcut
       obtain ⟨RB, rd, rfl⟩ := own_slice HM2.out.row
       have HPr2 := Lib.hid (HMF.out x' HX'.out)
       clear HMF HCL HCT HSC HMx HNx HX' HMX
       have HTK := Lib.hid (show (l.take k).length = k by rw [List.length_take, HLL.out]; omega)
       have HTS := Lib.hid (show l.take (k + 1) = l.take k ++ [(ml, p)] from take_snoc HLK.out)
       have HBK := Lib.hid (show patB (l.take k) + (p.size + 1) ≤ 1048576 by
        have h1 := patB_le (l.take (k + 1))
        have h2 := bulk_take l (k + 1)
        have h3 := HK.out
        rw [HTS.out, patB_snoc] at h1
        dsimp only at h1
        rw [← HTS.out] at h1
        omega)
       have HSC := Lib.hid (fun (w' : World) (h : Below wc.heap.size wc w') => (⟨(HM2.out.tab.below h HM2.out.tab.lt).cell 0, (HN2.out.below h HN2.out.lt).cell 1⟩ : w'.cell? ⟨tb, 0, none⟩ = some (.pointer (some ⟨q, 0, none⟩)) ∧ w'.cell? ⟨nb, 1, none⟩ = some (.string p)))
       go_upto_region 21 with (fail)
       go_cut [15] (fun y wd => ∃ (RC : Option Addr) (rn rcap : Nat) (S' : Nat → Prop) (es' : List En), y = .slice RC rn rcap ∧ Hid (Mk w wd q tb sl (patB (l.take k)) S' (l.take k) es' (.slice RB (rs ++ [x']).length rd) (rs ++ [x'])) ∧ Hid (Out w wd q S' es' (.slice RC rn rcap) (plc p (l.take k))) ∧ Hid (∀ z, z ∈ es' ↔ z ∈ es ∧ z.1 ≠ p) ∧ Hid (Blk wd nb 38 #[.slice MA ml.length mc, .string p, .slice XT.A XT.n XT.c, .int .i64 XT.k, .string XT.x, .string XT.y, .string XT.z, .int .i64 XT.s, .int .i64 XT.m]))
       case first =>
        have hS0 := HSC.out _ (below_drew (Below.refl wc.heap.size wc))
        have HMd := Lib.hid (HM2.out.below (below_drew (Below.refl wc.heap.size wc)))
        have hRM := Remove_any S wc.drew q es p HMd.out.tree.at_ HMd.out.tree.good (by have := HMd.out.tree.good.load; have := HMd.out.tree.sum; have := HBK.out; omega)
        have HRM := Lib.hid hRM
        clear hRM
        refine region_T (t := 6) (S := fun w' => w'.cell? ⟨tb, 0, none⟩ = some (.pointer (some ⟨q, 0, none⟩)) ∧ w'.cell? ⟨nb, 1, none⟩ = some (.string p)) (by kernel_rfl) hS0 (fun hHeld => ?_)
        refine' anyT_take0 (i := 0) (v := _) rfl (by kernel_rfl) (by kernel_rfl) (by kernel_rfl) (by decide) (fun _ _ _ h => h) (Or.inl ⟨by rfl, ?h13y⟩) hHeld ?h13r
        case h13y => (intro w hSw; (try dsimp only at hSw); (try simp only [List.getElem_toArray, List.getElem_cons_zero]); go_simp; try (with_reducible rfl))
        (try simp only [List.getElem_toArray, List.getElem_cons_zero, Act.put, List.setIfInBounds_toArray, List.set_cons_zero, List.set_cons_succ])
        refine' anyT_take0 (i := 1) (v := _) rfl (by kernel_rfl) (by kernel_rfl) (by kernel_rfl) (by decide) (fun _ _ _ h => h) (Or.inl ⟨by rfl, ?h14y⟩) hHeld ?h14r
        case h14y => (intro w hSw; (try dsimp only at hSw); (try simp only [List.getElem_toArray, List.getElem_cons_succ, List.getElem_cons_zero]); go_simp; try (with_reducible rfl))
        (try simp only [List.getElem_toArray, List.getElem_cons_succ, List.getElem_cons_zero, Act.put, List.setIfInBounds_toArray, List.set_cons_zero, List.set_cons_succ])
        refine' anyT_take0 (i := 2) (v := _) rfl (by kernel_rfl) (by kernel_rfl) (by kernel_rfl) (by decide) (fun _ _ _ h => h) (Or.inl ⟨by rfl, ?h15y⟩) hHeld ?h15r
        case h15y => (intro w hSw; (try dsimp only at hSw); (try simp only [List.getElem_toArray, List.getElem_cons_succ, List.getElem_cons_zero]); go_simp; try (with_reducible rfl))
        (try simp only [List.getElem_toArray, List.getElem_cons_succ, List.getElem_cons_zero, Act.put, List.setIfInBounds_toArray, List.set_cons_zero, List.set_cons_succ])
        refine' anyT_take (i := 3) (v := _) rfl (by kernel_rfl) (by kernel_rfl) (by kernel_rfl) (by kernel_rfl) (by rfl) (fun _ _ _ h => h) (Or.inl ⟨by rfl, ?h16y⟩) hHeld ?h16r
        case h16y => (intro w hSw; (try dsimp only at hSw); obtain ⟨s0, s1⟩ := hSw; (try simp only [List.getElem_toArray, List.getElem_cons_succ, List.getElem_cons_zero]); go_simp; try (with_reducible rfl))
        (try simp only [List.getElem_toArray, List.getElem_cons_succ, List.getElem_cons_zero, Act.put, List.setIfInBounds_toArray, List.set_cons_zero, List.set_cons_succ])
        refine' anyT_take0 (i := 4) (v := _) rfl (by kernel_rfl) (by kernel_rfl) (by kernel_rfl) (by decide) (fun _ _ _ h => h) (Or.inl ⟨by rfl, ?h17y⟩) hHeld ?h17r
        case h17y => (intro w hSw; (try dsimp only at hSw); (try simp only [List.getElem_toArray, List.getElem_cons_succ, List.getElem_cons_zero]); go_simp; try (with_reducible rfl))
        (try simp only [List.getElem_toArray, List.getElem_cons_succ, List.getElem_cons_zero, Act.put, List.setIfInBounds_toArray, List.set_cons_zero, List.set_cons_succ])
        refine' anyT_take (i := 5) (v := _) rfl (by kernel_rfl) (by kernel_rfl) (by kernel_rfl) (by kernel_rfl) (by rfl) (fun _ _ _ h => h) (Or.inl ⟨by rfl, ?h18y⟩) hHeld ?h18r
        case h18y => (intro w hSw; (try dsimp only at hSw); obtain ⟨s0, s1⟩ := hSw; (try simp only [List.getElem_toArray, List.getElem_cons_succ, List.getElem_cons_zero]); go_simp; try (with_reducible rfl))
        (try simp only [List.getElem_toArray, List.getElem_cons_succ, List.getElem_cons_zero, Act.put, List.setIfInBounds_toArray, List.set_cons_zero, List.set_cons_succ])
        refine anyT_ready (rs := [6]) (by kernel_rfl) (by simp) ?_
        refine AllReadyT.cons rfl (fun K hK => ?_) AllReadyT.nil
        go_simp
        go_at_call 38
        refine HRM.out.mono ?_
        rintro e w5 hrem
        rcases hrem with ⟨hf, rfl, hb5⟩ | ⟨ix, xe, hf, hxe, rfl, hT5, ht5⟩
        ·have hM5 := HMd.out.rem_none hb5
         have HN5 := Lib.hid ((HN2.out.drew).below hb5 HN2.out.lt)
         have hno : ∀ z ∈ es, z.1 ≠ p := fun z hz => by have := List.findIdx?_eq_none_iff.1 hf z hz; simpa using this
         have HP5 := Lib.hid (show plc p (l.take k) = [] from plc_none fun r hr e => by obtain ⟨z, hz, ez⟩ := (HME.out p).2 ⟨r, hr, e⟩; exact hno z hz ez)
         have HZ5 := Lib.hid (show ∀ z, z ∈ es ↔ z ∈ es ∧ z.1 ≠ p from fun z => ⟨fun h => ⟨h, hno z h⟩, fun h => h.1⟩)
         have HM5 := Lib.hid hM5.1
         have HO5 : Hid (Out w w5 q S es (.slice none 0 0) (plc p (l.take k))) := Lib.hid (by rw [HP5.out]; exact hM5.2)
         clear hM5 hno hf hb5
         have hS5 : w5.cell? ⟨tb, 0, none⟩ = some (.pointer (some ⟨q, 0, none⟩)) ∧ w5.cell? ⟨nb, 1, none⟩ = some (.string p) := ⟨HM5.out.tab.cell 0, HN5.out.cell 1⟩
         (try go_wp2_with fail)
         refine hK.out _ _ (.inr hS5) (fun _ => ?_)
         clear hK K
         (try simp only [List.getElem_toArray, List.getElem_cons_succ, List.getElem_cons_zero, Act.put, List.setIfInBounds_toArray, List.set_cons_zero, List.set_cons_succ])
         refine' anyT_take0 (i := 7) (v := _) rfl (by kernel_rfl) (by kernel_rfl) (by kernel_rfl) (by decide) (fun _ _ _ h => h) (Or.inl ⟨by rfl, ?h19y⟩) hS5 ?h19r
         case h19y => (intro w hSw; (try dsimp only at hSw); (try simp only [List.getElem_toArray, List.getElem_cons_succ, List.getElem_cons_zero]); go_simp; try (with_reducible rfl))
         (try simp only [List.getElem_toArray, List.getElem_cons_succ, List.getElem_cons_zero, Act.put, List.setIfInBounds_toArray, List.set_cons_zero, List.set_cons_succ])
         refine' anyT_take0 (i := 8) (v := _) rfl (by kernel_rfl) (by kernel_rfl) (by kernel_rfl) (by decide) (fun _ _ _ h => h) (Or.inl ⟨by rfl, ?h20y⟩) hS5 ?h20r
         case h20y => (intro w hSw; (try dsimp only at hSw); (try simp only [List.getElem_toArray, List.getElem_cons_succ, List.getElem_cons_zero]); go_simp; try (with_reducible rfl))
         (try simp only [List.getElem_toArray, List.getElem_cons_succ, List.getElem_cons_zero, Act.put, List.setIfInBounds_toArray, List.set_cons_zero, List.set_cons_succ])
         refine' anyT_take0 (i := 9) (v := _) rfl (by kernel_rfl) (by kernel_rfl) (by kernel_rfl) (by decide) (fun _ _ _ h => h) (Or.inl ⟨by rfl, ?h21y⟩) hS5 ?h21r
         case h21y => (intro w hSw; (try dsimp only at hSw); (try simp only [List.getElem_toArray, List.getElem_cons_succ, List.getElem_cons_zero]); go_simp; try (with_reducible rfl))
         (try simp only [List.getElem_toArray, List.getElem_cons_succ, List.getElem_cons_zero, Act.put, List.setIfInBounds_toArray, List.set_cons_zero, List.set_cons_succ])
         refine' anyT_take0 (i := 10) (v := _) rfl (by kernel_rfl) (by kernel_rfl) (by kernel_rfl) (by decide) (fun _ _ _ h => h) (Or.inl ⟨by rfl, ?h22y⟩) hS5 ?h22r
         case h22y => (intro w hSw; (try dsimp only at hSw); (try simp only [List.getElem_toArray, List.getElem_cons_succ, List.getElem_cons_zero]); go_simp; try (with_reducible rfl))
         (try simp only [List.getElem_toArray, List.getElem_cons_succ, List.getElem_cons_zero, Act.put, List.setIfInBounds_toArray, List.set_cons_zero, List.set_cons_succ])
         refine' anyT_take0 (i := 11) (v := _) rfl (by kernel_rfl) (by kernel_rfl) (by kernel_rfl) (by decide) (fun _ _ _ h => h) (Or.inl ⟨by rfl, ?h23y⟩) hS5 ?h23r
         case h23y => (intro w hSw; (try dsimp only at hSw); (try simp only [List.getElem_toArray, List.getElem_cons_succ, List.getElem_cons_zero]); go_simp; try (with_reducible rfl))
         (try simp only [List.getElem_toArray, List.getElem_cons_succ, List.getElem_cons_zero, Act.put, List.setIfInBounds_toArray, List.set_cons_zero, List.set_cons_succ])
         refine anyT_done (by kernel_rfl) ?_ _
         clear hS5 hS0 hHeld
         go_wp2_with (fail)
         go_meet
         exact ⟨_, _, _, _, _, rfl, HM5, HO5, HZ5, HN5⟩
        ·have hM5 := HMd.out.rem_some ht5 hxe hT5
         have HN5 := Lib.hid ((HN2.out.drew).grown ht5.grown (fun e => HNQ.out (Option.some.inj e).symm))
         obtain ⟨ye, hye, hyp, _⟩ := findP_some hf
         have hyx : ye = xe := Option.some.inj (hye.symm.trans hxe)
         subst hyx
         have HZ5 := Lib.hid (show ∀ z, z ∈ es.eraseIdx ix ↔ z ∈ es ∧ z.1 ≠ p from fun z => by rw [← hyp]; exact mem_erase HMd.out.tree.good hxe z)
         have HM5 := Lib.hid hM5.1
         have HO5 : Hid (Out w w5 q (More S wc.drew w5) (es.eraseIdx ix) (.slice ye.2.2.2.1 ye.2.2.2.2.1 ye.2.2.2.2.2) (plc p (l.take k))) := Lib.hid (by have := hM5.2; rw [hyp] at this; exact this)
         clear hM5 hf hT5 ht5 hye hyp hxe
         have hS5 : w5.cell? ⟨tb, 0, none⟩ = some (.pointer (some ⟨q, 0, none⟩)) ∧ w5.cell? ⟨nb, 1, none⟩ = some (.string p) := ⟨HM5.out.tab.cell 0, HN5.out.cell 1⟩
         (try go_wp2_with fail)
         refine hK.out _ _ (.inr hS5) (fun _ => ?_)
         clear hK K
         (try simp only [List.getElem_toArray, List.getElem_cons_succ, List.getElem_cons_zero, Act.put, List.setIfInBounds_toArray, List.set_cons_zero, List.set_cons_succ])
         refine' anyT_take0 (i := 7) (v := _) rfl (by kernel_rfl) (by kernel_rfl) (by kernel_rfl) (by decide) (fun _ _ _ h => h) (Or.inl ⟨by rfl, ?h24y⟩) hS5 ?h24r
         case h24y => (intro w hSw; (try dsimp only at hSw); (try simp only [List.getElem_toArray, List.getElem_cons_succ, List.getElem_cons_zero]); go_simp; try (with_reducible rfl))
         (try simp only [List.getElem_toArray, List.getElem_cons_succ, List.getElem_cons_zero, Act.put, List.setIfInBounds_toArray, List.set_cons_zero, List.set_cons_succ])
         refine' anyT_take0 (i := 8) (v := _) rfl (by kernel_rfl) (by kernel_rfl) (by kernel_rfl) (by decide) (fun _ _ _ h => h) (Or.inl ⟨by rfl, ?h25y⟩) hS5 ?h25r
         case h25y => (intro w hSw; (try dsimp only at hSw); (try simp only [List.getElem_toArray, List.getElem_cons_succ, List.getElem_cons_zero]); go_simp; try (with_reducible rfl))
         (try simp only [List.getElem_toArray, List.getElem_cons_succ, List.getElem_cons_zero, Act.put, List.setIfInBounds_toArray, List.set_cons_zero, List.set_cons_succ])
         refine' anyT_take0 (i := 9) (v := _) rfl (by kernel_rfl) (by kernel_rfl) (by kernel_rfl) (by decide) (fun _ _ _ h => h) (Or.inl ⟨by rfl, ?h26y⟩) hS5 ?h26r
         case h26y => (intro w hSw; (try dsimp only at hSw); (try simp only [List.getElem_toArray, List.getElem_cons_succ, List.getElem_cons_zero]); go_simp; try (with_reducible rfl))
         (try simp only [List.getElem_toArray, List.getElem_cons_succ, List.getElem_cons_zero, Act.put, List.setIfInBounds_toArray, List.set_cons_zero, List.set_cons_succ])
         refine' anyT_take0 (i := 10) (v := _) rfl (by kernel_rfl) (by kernel_rfl) (by kernel_rfl) (by decide) (fun _ _ _ h => h) (Or.inl ⟨by rfl, ?h27y⟩) hS5 ?h27r
         case h27y => (intro w hSw; (try dsimp only at hSw); (try simp only [List.getElem_toArray, List.getElem_cons_succ, List.getElem_cons_zero]); go_simp; try (with_reducible rfl))
         (try simp only [List.getElem_toArray, List.getElem_cons_succ, List.getElem_cons_zero, Act.put, List.setIfInBounds_toArray, List.set_cons_zero, List.set_cons_succ])
         refine' anyT_take0 (i := 11) (v := _) rfl (by kernel_rfl) (by kernel_rfl) (by kernel_rfl) (by decide) (fun _ _ _ h => h) (Or.inl ⟨by rfl, ?h28y⟩) hS5 ?h28r
         case h28y => (intro w hSw; (try dsimp only at hSw); (try simp only [List.getElem_toArray, List.getElem_cons_succ, List.getElem_cons_zero]); go_simp; try (with_reducible rfl))
         (try simp only [List.getElem_toArray, List.getElem_cons_succ, List.getElem_cons_zero, Act.put, List.setIfInBounds_toArray, List.set_cons_zero, List.set_cons_succ])
         refine anyT_done (by kernel_rfl) ?_ _
         clear hS5 hS0 hHeld
         go_wp2_with (fail)
         go_meet
         exact ⟨_, _, _, _, _, rfl, HM5, HO5, HZ5, HN5⟩
       obtain ⟨RC, rn, rcap, S', es', rfl, HM3, HO3, HZ3, HN3⟩ := hcut
       clear HSC HM2 HN2
       have HNE := Lib.hid (show ∀ y ∈ es', ordP y.2.2.1 (splitP p).1 ≠ 0 from fun y hy => by
        obtain ⟨hye, hyp⟩ := (HZ3.out y).1 hy
        obtain ⟨r, hr, e⟩ := (HME.out y.1).1 ⟨y, hye, rfl⟩
        have h1 := HGL2.out.one r (List.mem_append_left _ hr)
        have h2 := HGL2.out.one (ml, p) (by simp)
        have h3 := (List.pairwise_append.1 HGL2.out.two).2.2 r hr (ml, p) (by simp)
        have h4 := clash_ord h1 h2 h3 (by rw [e]; exact hyp)
        rw [e, HM3.out.tree.good.pcs y hy] at h4
        exact h4)
       have HSP := Lib.hid (show (splitP p).2.2 = true from chk_split (wrong_chk (HGL2.out.one (ml, p) (by simp))))
       have HSC := Lib.hid (fun (w' : World) (h : Below wc.heap.size wc w') => (⟨(HM3.out.tab.below h HM3.out.tab.lt).cell 0, (HN3.out.below h HN3.out.lt).cell 1⟩ : w'.cell? ⟨tb, 0, none⟩ = some (.pointer (some ⟨q, 0, none⟩)) ∧ w'.cell? ⟨nb, 1, none⟩ = some (.string p)))
       have hkn : k ≤ 256 := by omega
       go_upto_region 22 with (fail)
       go_cut [17] (fun y wd => y = .int .i64 0 ∧ ∃ (S2 : Nat → Prop) (es2 : List En), Hid (Mk w wd q tb sl (patB (l.take (k + 1))) S2 (l.take (k + 1)) es2 (.slice RB (rs ++ [x']).length rd) (rs ++ [x'])) ∧ Hid (MemE es2 (l.take (k + 1))))
       case first =>
        have hS0 := HSC.out _ (below_drew (Below.refl wc.heap.size wc))
        have HMd := Lib.hid (HM3.out.below (below_drew (Below.refl wc.heap.size wc)))
        have HOd : Hid (Out w wc.drew q S' es' (.slice RC rn rcap) (plc p (l.take k))) := Lib.hid ⟨own_below HO3.out.own (below_drew (Below.refl _ _)), HO3.out.apart, HO3.out.off⟩
        have hpl := plc_len p (l.take k)
        rw [HTK.out] at hpl
        refine region_T (t := 10) (S := fun w' => w'.cell? ⟨tb, 0, none⟩ = some (.pointer (some ⟨q, 0, none⟩)) ∧ w'.cell? ⟨nb, 1, none⟩ = some (.string p)) (by kernel_rfl) hS0 (fun hHeld => ?_)
        refine' anyT_take0 (i := 0) (v := _) rfl (by kernel_rfl) (by kernel_rfl) (by kernel_rfl) (by decide) (fun _ _ _ h => h) (Or.inl ⟨by rfl, ?h29y⟩) hHeld ?h29r
        case h29y => (intro w hSw; (try dsimp only at hSw); (try simp only [List.getElem_toArray, List.getElem_cons_zero]); go_simp; try (with_reducible rfl))
        (try simp only [List.getElem_toArray, List.getElem_cons_zero, Act.put, List.setIfInBounds_toArray, List.set_cons_zero, List.set_cons_succ])
        refine' anyT_take0 (i := 1) (v := _) rfl (by kernel_rfl) (by kernel_rfl) (by kernel_rfl) (by decide) (fun _ _ _ h => h) (Or.inl ⟨by rfl, ?h30y⟩) hHeld ?h30r
        case h30y => (intro w hSw; (try dsimp only at hSw); (try simp only [List.getElem_toArray, List.getElem_cons_succ, List.getElem_cons_zero]); go_simp; try (with_reducible rfl))
        (try simp only [List.getElem_toArray, List.getElem_cons_succ, List.getElem_cons_zero, Act.put, List.setIfInBounds_toArray, List.set_cons_zero, List.set_cons_succ])
        refine' anyT_take0 (i := 2) (v := _) rfl (by kernel_rfl) (by kernel_rfl) (by kernel_rfl) (by decide) (fun _ _ _ h => h) (Or.inl ⟨by rfl, ?h31y⟩) hHeld ?h31r
        case h31y => (intro w hSw; (try dsimp only at hSw); (try simp only [List.getElem_toArray, List.getElem_cons_succ, List.getElem_cons_zero]); go_simp; try (with_reducible rfl))
        (try simp only [List.getElem_toArray, List.getElem_cons_succ, List.getElem_cons_zero, Act.put, List.setIfInBounds_toArray, List.set_cons_zero, List.set_cons_succ])
        refine' anyT_take (i := 3) (v := _) rfl (by kernel_rfl) (by kernel_rfl) (by kernel_rfl) (by kernel_rfl) (by rfl) (fun _ _ _ h => h) (Or.inl ⟨by rfl, ?h32y⟩) hHeld ?h32r
        case h32y => (intro w hSw; (try dsimp only at hSw); obtain ⟨s0, s1⟩ := hSw; (try simp only [List.getElem_toArray, List.getElem_cons_succ, List.getElem_cons_zero]); go_simp; try (with_reducible rfl))
        (try simp only [List.getElem_toArray, List.getElem_cons_succ, List.getElem_cons_zero, Act.put, List.setIfInBounds_toArray, List.set_cons_zero, List.set_cons_succ])
        refine' anyT_take0 (i := 4) (v := _) rfl (by kernel_rfl) (by kernel_rfl) (by kernel_rfl) (by decide) (fun _ _ _ h => h) (Or.inl ⟨by rfl, ?h33y⟩) hHeld ?h33r
        case h33y => (intro w hSw; (try dsimp only at hSw); (try simp only [List.getElem_toArray, List.getElem_cons_succ, List.getElem_cons_zero]); go_simp; try (with_reducible rfl))
        (try simp only [List.getElem_toArray, List.getElem_cons_succ, List.getElem_cons_zero, Act.put, List.setIfInBounds_toArray, List.set_cons_zero, List.set_cons_succ])
        refine' anyT_take (i := 5) (v := _) rfl (by kernel_rfl) (by kernel_rfl) (by kernel_rfl) (by kernel_rfl) (by rfl) (fun _ _ _ h => h) (Or.inl ⟨by rfl, ?h34y⟩) hHeld ?h34r
        case h34y => (intro w hSw; (try dsimp only at hSw); obtain ⟨s0, s1⟩ := hSw; (try simp only [List.getElem_toArray, List.getElem_cons_succ, List.getElem_cons_zero]); go_simp; try (with_reducible rfl))
        (try simp only [List.getElem_toArray, List.getElem_cons_succ, List.getElem_cons_zero, Act.put, List.setIfInBounds_toArray, List.set_cons_zero, List.set_cons_succ])
        refine' anyT_take0 (i := 6) (v := _) rfl (by kernel_rfl) (by kernel_rfl) (by kernel_rfl) (by decide) (fun _ _ _ h => h) (Or.inl ⟨by rfl, ?h35y⟩) hHeld ?h35r
        case h35y => (intro w hSw; (try dsimp only at hSw); (try simp only [List.getElem_toArray, List.getElem_cons_succ, List.getElem_cons_zero]); go_simp; try (with_reducible rfl))
        (try simp only [List.getElem_toArray, List.getElem_cons_succ, List.getElem_cons_zero, Act.put, List.setIfInBounds_toArray, List.set_cons_zero, List.set_cons_succ])
        refine' anyT_take0 (i := 7) (v := _) rfl (by kernel_rfl) (by kernel_rfl) (by kernel_rfl) (by decide) (fun _ _ _ h => h) (Or.inl ⟨by rfl, ?h36y⟩) hHeld ?h36r
        case h36y => (intro w hSw; (try dsimp only at hSw); (try simp only [List.getElem_toArray, List.getElem_cons_succ, List.getElem_cons_zero]); go_simp; try (with_reducible rfl))
        (try simp only [List.getElem_toArray, List.getElem_cons_succ, List.getElem_cons_zero, Act.put, List.setIfInBounds_toArray, List.set_cons_zero, List.set_cons_succ])
        refine anyT_ready (rs := [8]) (by kernel_rfl) (by simp) ?_
        refine AllReadyT.cons rfl (fun K hK => ?_) AllReadyT.nil
        go_simp
        have hB7 : Below wc.drew.heap.size wc.drew (wc.drew.alloc (.cells #[.int .i64 (k : Int)] 3)) := (Below.refl _ _).alloc (Nat.le_refl _) _
        have hS7 := HSC.out _ ((below_drew (Below.refl wc.heap.size wc)).alloc (Nat.le_refl _) (.cells #[.int .i64 (k : Int)] 3))
        refine hK.out _ _ (.inr hS7) (fun _ => ?_)
        clear hK K
        (try simp only [List.getElem_toArray, List.getElem_cons_succ, List.getElem_cons_zero, Act.put, List.setIfInBounds_toArray, List.set_cons_zero, List.set_cons_succ])
        refine anyT_ready (rs := [9]) (by kernel_rfl) (by simp) ?_
        refine AllReadyT.cons rfl (fun K hK => ?_) AllReadyT.nil
        refine step_append_any _ rfl (.tmp 98) (.tmp 100) 82 rfl w.heap.size 3 j0 (.int .i64 0) 1 8 Tryz.underlying82 hj0 hy0 hy1 hy2 rfl (by decide) _ (plc p (l.take k)).length (numsV (plc p (l.take k))) (by rfl) (own_below HOd.out.own hB7) _ (some ⟨wc.heap.size, 0, none⟩) 1 1 [.int .i64 (k : Int)] (by rfl) (reads_of_row (row_newc wc.drew _ _ rfl) rfl (by decide)) (by intro u hu; simp at hu; subst hu; rfl) (by unfold maxLen; omega) (by omega) (Nat.le_trans HMd.out.base.size hB7.size) ?_
        intro kv w7 hown7 hg7 alt7
        obtain ⟨KB, kb, rfl⟩ := own_slice hown7
        have hown8 : w7.ownsRow w.heap.size 3 1 (.slice KB ((plc p (l.take k)).length + 1) kb) (plc p (l.take k) ++ [k]).length (numsV (plc p (l.take k) ++ [k])) := by rw [numsV_snoc, List.length_append]; exact hown7
        have hM7 := HMd.out.num HOd.out hB7 hg7 hown8 alt7
        have HM7 := Lib.hid hM7.1
        have HO7 := Lib.hid hM7.2
        have HN7 := Lib.hid ((HN3.out.drew.alloc (.cells #[.int .i64 (k : Int)] 3)).grown hg7 (fun e => own_blk_ne (own_below HOd.out.own hB7) (HN3.out.drew.alloc _) (by decide) e.symm))
        have hS8 : w7.cell? ⟨tb, 0, none⟩ = some (.pointer (some ⟨q, 0, none⟩)) ∧ w7.cell? ⟨nb, 1, none⟩ = some (.string p) := ⟨HM7.out.tab.cell 0, HN7.out.cell 1⟩
        have hIN := Insert_any S' w7 q es' p (KB, (plc p (l.take k)).length + 1, kb) HM7.out.tree.at_ HM7.out.tree.good (by have := HBK.out; omega) (by have := HM7.out.tree.good.load; have := HM7.out.tree.sum; have := HBK.out; omega)
        have HIN := Lib.hid hIN
        clear hIN hM7 hown7 hown8 alt7 hg7 hB7
        refine hK.out _ _ (.inr hS8) (fun _ => ?_)
        clear hK K
        (try simp only [List.getElem_toArray, List.getElem_cons_succ, List.getElem_cons_zero, Act.put, List.setIfInBounds_toArray, List.set_cons_zero, List.set_cons_succ])
        refine anyT_ready (rs := [10]) (by kernel_rfl) (by simp) ?_
        refine AllReadyT.cons rfl (fun K hK => ?_) AllReadyT.nil
        go_simp
        go_at_call 39
        refine HIN.out.mono ?_
        rintro e w8 hins
        unfold GivesInsert GivesInsertR at hins
        rcases hins with ⟨h1, _⟩ | ⟨_, ⟨y, hy, h0⟩, _⟩ | ⟨_, _, rfl, ⟨loc, hT8⟩, ht8⟩
        ·exact absurd (h1.symm.trans HSP.out) (by decide)
        ·exact absurd h0 (HNE.out y hy)
        have HM8 : Hid (Mk w w8 q tb sl (patB (l.take (k + 1))) (More S' w7 w8) (l.take (k + 1)) (insE es' (p, loc, (splitP p).1, (KB, (plc p (l.take k)).length + 1, kb))) (.slice RB (rs ++ [x']).length rd) (rs ++ [x'])) := Lib.hid (by
         have := HM7.out.ins (r := (ml, p)) ht8 (by rw [HTK.out]; exact HO7.out) (fun y hy => ((HZ3.out y).1 hy).2) hT8 HSP.out HNE.out
         rw [HTS.out, patB_snoc]
         exact this)
        have HME8 := Lib.hid (show MemE (insE es' (p, loc, (splitP p).1, (KB, (plc p (l.take k)).length + 1, kb))) (l.take (k + 1)) by rw [HTS.out]; exact memE_step (r := (ml, p)) HME.out HZ3.out)
        have HN8 := Lib.hid (HN7.out.grown ht8.grown (fun e => HNQ.out (Option.some.inj e).symm))
        have hS9 : w8.cell? ⟨tb, 0, none⟩ = some (.pointer (some ⟨q, 0, none⟩)) ∧ w8.cell? ⟨nb, 1, none⟩ = some (.string p) := ⟨HM8.out.tab.cell 0, HN8.out.cell 1⟩
        clear ht8 hT8
        (try go_wp2_with fail)
        refine hK.out _ _ (.inr hS9) (fun _ => ?_)
        clear hK K
        (try simp only [List.getElem_toArray, List.getElem_cons_succ, List.getElem_cons_zero, Act.put, List.setIfInBounds_toArray, List.set_cons_zero, List.set_cons_succ])
        refine' anyT_take0 (i := 11) (v := _) rfl (by kernel_rfl) (by kernel_rfl) (by kernel_rfl) (by decide) (fun _ _ _ h => h) (Or.inl ⟨by rfl, ?h37y⟩) hS9 ?h37r
        case h37y => (intro w hSw; (try dsimp only at hSw); (try simp only [List.getElem_toArray, List.getElem_cons_succ, List.getElem_cons_zero]); go_simp; try (with_reducible rfl))
        (try simp only [List.getElem_toArray, List.getElem_cons_succ, List.getElem_cons_zero, Act.put, List.setIfInBounds_toArray, List.set_cons_zero, List.set_cons_succ])
        refine anyT_done (by kernel_rfl) ?_ _
        clear hS9 hS8 hS7 hS0 hHeld
        go_wp2_with (fail)
        go_meet
        exact ⟨rfl, _, _, HM8, HME8⟩
       obtain ⟨rfl, S2, es2, HM4, HME4⟩ := hcut
       clear HM3 HO3 HN3 HZ3 HNE HSP HSC
       have HGL3 : Hid (GoodL (l.take (k + 1))) := Lib.hid (by rw [HTS.out]; exact HGL2.out)
       have HPr3 : Hid (plA (rs ++ [x']) = l.take (k + 1)) := Lib.hid (by rw [HTS.out]; exact HPr2.out)
       have HN9 : Hid (res = newGo (l.take (k + 1)) (l.drop (k + 1)) (k + 1)) := Lib.hid (by rw [HTS.out]; exact HNN.out)
       go_wp2
       go_roundw
       case rel => exact ⟨k + 1, S2, es2, _, rs ++ [x'], by omega, by go_num, HM4, HPr3, HME4, HN9, HGL3⟩
       case measure => simp [RowKit.intOf]; omega
      ·have hon : (o != 0) = true := by simpa using ho0
       have HV := Lib.hid (show res = (k, o) by rw [HN.out, HSL.out, newGo_two HWP.out (by rw [← HW.out]; exact ho0), HW.out])
       go_wp2
       refine bodyPost_ret (results_tmp3 rfl _ _ _) rfl ?_
       exact gives_no HV.out ho0 HMx.out.base
   ·have hwn : (wp != 0) = true := by simpa using hw0
    have HV := Lib.hid (show res = (k, wp) by rw [HN.out, HSL.out, newGo_one (by rw [HWP.out]; exact hw0), HWP.out])
    go_wp2
    refine bodyPost_ret (results_tmp3 rfl _ _ _) rfl ?_
    exact gives_no HV.out hw0 HMk3.out.base
  ·obtain rfl : k = la.length := by omega
   have HV := Lib.hid (show res = (0, 0) by rw [HN.out, ← HLL.out, List.drop_length]; rfl)
   have HT := Lib.hid (show TableAt wr tb sl l by
    have ht : l.take la.length = l := by rw [← HLL.out, List.take_length]
    have h1 := HMk.out
    have h2 := HPr.out
    have h3 := HME.out
    have h4 := HGL.out
    rw [ht] at h1 h2 h3 h4
    exact h1.table h2 h3 (Nat.le_trans (patB_le l) HK.out) (by rw [HLL.out]; exact hle) HK.out h4)
   go_wp2
   refine bodyPost_ret (results_tmp3 rfl _ _ _) rfl ?_
   exact .inr ⟨HV.out, tb, rfl, htb, HT.out, HMk.out.base⟩
end Go.Proofs.YtiohmnhbmmhnhaaGreatDoor
