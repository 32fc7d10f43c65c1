/-
  RadixWalk, in plain words: the patterns that are put in meanwhile are alike, so the tree hardly grows.
-/
import Derived.Test.YtkhgnfofinpofaaRxOp
import Derived.Test.YtkhgnfofinpofaaTgDn
import Derived.RangeFuncNested
namespace Go.Proofs.Ytkhgnfofinpofaa
open Go.RowKit Go.Shelf Go.Lib

theorem dec_len20 {k : Nat} (h : k ≤ 4194304) : (Lib.decDigits k).length ≤ 20 := by
  rw [Lib.decDigits_length]
  exact Lib.nDigits_le20 k (by omega)
theorem dec_no47 (u : Nat) : ∀ b ∈ Lib.decDigits u, b.toNat ≠ 47 := by
  induction u using Nat.strongRecOn with
  | _ u ih =>
    have one : ∀ d : Nat, d < 10 → (UInt8.ofNat (48 + d)).toNat ≠ 47 := by decide +kernel
    by_cases h : u < 10
    · rw [Lib.decDigits_one h]
      intro b hb
      rw [List.mem_singleton.1 hb]
      exact one u h
    · rw [Lib.decDigits, dif_neg h]
      intro b hb
      rcases List.mem_append.1 hb with hb | hb
      · exact ih (u / 10) (by omega) b hb
      · rw [List.mem_singleton.1 hb]
        exact one (u % 10) (by omega)
/-- The text that is put in meanwhile. -/
def newT (d : ByteArray) : ByteArray := (⟨#[47, 110, 101, 119, 47, 58, 120]⟩ : ByteArray) ++ d ++ (⟨#[47, 121]⟩ : ByteArray)
theorem newT_bl (d : ByteArray) : bl (newT d) = [47, 110, 101, 119, 47, 58, 120] ++ bl d ++ [47, 121] := by
  unfold newT
  rw [bl_append, bl_append]
  rfl
theorem newT_size (d : ByteArray) : (newT d).size = d.size + 9 := by
  rw [← bl_length, newT_bl, ← bl_length d]
  simp only [List.length_append, List.length_cons, List.length_nil]
  omega
theorem bt_of_bl {s : ByteArray} {j n : Nat} (h : (bl s)[j]? = some n) : bt s j = (n : Int) := by
  unfold bl at h
  rw [List.getElem?_map, Option.map_eq_some_iff] at h
  obtain ⟨b, hb, rfl⟩ := h
  unfold bt
  rw [List.getD_eq_getElem?_getD, hb]
  rfl
def txNew : ByteArray := ⟨#[110, 101, 119]⟩
def txY : ByteArray := ⟨#[121]⟩
/-- The form of what is put in. -/
def nfP : List Pc := [(0, txNew), (1, ⟨#[]⟩), (0, txY)]
theorem newT_form {d : ByteArray} (hd : ∀ n ∈ bl d, n ≠ 47) (hg : (splitP (newT d)).2.2 = true) : ordP (splitP (newT d)).1 nfP = 0 := by
  have hz := newT_size d
  have hb := newT_bl d
  have hdl := bl_length d
  have hl7 : (([47, 110, 101, 119, 47, 58, 120] : List Nat) ++ bl d).length = 7 + d.size := by simp only [List.length_append, List.length_cons, List.length_nil]; omega
  have b0 : bt (newT d) 0 = 47 := bt_of_bl (by rw [hb]; rfl)
  have b1 : bt (newT d) 1 = 110 := bt_of_bl (by rw [hb]; rfl)
  have b2 : bt (newT d) 2 = 101 := bt_of_bl (by rw [hb]; rfl)
  have b3 : bt (newT d) 3 = 119 := bt_of_bl (by rw [hb]; rfl)
  have b4 : bt (newT d) 4 = 47 := bt_of_bl (by rw [hb]; rfl)
  have b5 : bt (newT d) 5 = 58 := bt_of_bl (by rw [hb]; rfl)
  have b6 : bt (newT d) 6 = 120 := bt_of_bl (by rw [hb]; rfl)
  have bm : ∀ j, 7 ≤ j → j < 7 + d.size → bt (newT d) j ≠ 47 := fun j h1 h2 => by
    have hj : (bl d)[j - 7]? = some ((bl d)[j - 7]'(by omega)) := List.getElem?_eq_getElem (by omega)
    have h3 : (bl (newT d))[j]? = some ((bl d)[j - 7]'(by omega)) := by
      rw [hb, List.getElem?_append_left (by simp only [List.length_append, List.length_cons, List.length_nil]; omega), List.getElem?_append_right (by simp only [List.length_cons, List.length_nil]; omega)]
      exact hj
    rw [bt_of_bl h3]
    have := hd _ (List.getElem_mem (l := bl d) (n := j - 7) (by omega))
    omega
  have be : bt (newT d) (7 + d.size) = 47 := bt_of_bl (by
    rw [hb, List.getElem?_append_right (by simp only [List.length_append, List.length_cons, List.length_nil]; omega)]
    rw [hl7, Nat.sub_self]
    rfl)
  have by' : bt (newT d) (8 + d.size) = 121 := bt_of_bl (by
    rw [hb, List.getElem?_append_right (by simp only [List.length_append, List.length_cons, List.length_nil]; omega)]
    rw [hl7, show 8 + d.size - (7 + d.size) = 1 by omega]
    rfl)
  have e1 : (newT d).extract (0 + 1) 4 = txNew := bl_inj (by
    rw [bl_extract, hb]
    rfl)
  have e3 : (newT d).extract (7 + d.size + 1) (d.size + 9) = txY := bl_inj (by
    rw [bl_extract, List.take_of_length_le (by rw [bl_length, hz]; exact Nat.le_refl _), hb]
    have : ([47, 110, 101, 119, 47, 58, 120] ++ bl d ++ [47, 121] : List Nat) = ([47, 110, 101, 119, 47, 58, 120] ++ bl d ++ [47]) ++ [121] := by simp
    rw [this, List.drop_left' (by simp only [List.length_append, List.length_cons, List.length_nil]; omega)]
    rfl)
  have hs : segsP (newT d) = [txNew, (newT d).extract (4 + 1) (7 + d.size), txY] := by
    rw [segsP_A, segsA_step (k := 4) (by omega) (by omega) (by omega) (fun j h1 h2 => by
      have : j = 1 ∨ j = 2 ∨ j = 3 := by omega
      rcases this with rfl | rfl | rfl
      · rw [b1]; decide
      · rw [b2]; decide
      · rw [b3]; decide) (fun _ => b4),
      segsA_step (k := 7 + d.size) (by omega) (by omega) (by omega) (fun j h1 h2 => by
        rcases Nat.lt_or_ge j 7 with h | h
        · have : j = 5 ∨ j = 6 := by omega
          rcases this with rfl | rfl
          · rw [b5]; decide
          · rw [b6]; decide
        · exact bm j h h2) (fun _ => be),
      segsA_step (k := d.size + 9) (by omega) (by omega) (by omega) (fun j h1 h2 => by
        have : j = 8 + d.size := by omega
        subst this
        rw [by']; decide) (fun h => by omega),
      segsA_end (by omega), e1, e3]
  rw [split_segs hg, hs]
  have h2 : bt ((newT d).extract (4 + 1) (7 + d.size)) 0 = 58 := by rw [bt_ext0 (by omega)]; exact b5
  have h2z : 0 < ((newT d).extract (4 + 1) (7 + d.size)).size := by rw [ByteArray.size_extract]; omega
  have p2 : pcOf ((newT d).extract (4 + 1) (7 + d.size)) = (1, ((newT d).extract (4 + 1) (7 + d.size)).extract 1 ((newT d).extract (4 + 1) (7 + d.size)).size) := by
    unfold pcOf
    rw [if_pos ⟨h2z, h2⟩]
  have p1 : pcOf txNew = (0, txNew) := by
    unfold pcOf
    rw [if_neg (by rintro ⟨_, h⟩; exact absurd h (by decide)), if_neg (by rintro ⟨_, h⟩; exact absurd h (by decide))]
  have p3 : pcOf txY = (0, txY) := by
    unfold pcOf
    rw [if_neg (by rintro ⟨_, h⟩; exact absurd h (by decide)), if_neg (by rintro ⟨_, h⟩; exact absurd h (by decide))]
  simp only [List.map_cons, List.map_nil, p1, p2, p3]
  unfold nfP
  rw [ordP_cons, if_pos (by unfold hdP; simp [cmpB_zero]), ordP_cons, if_pos (by unfold hdP; simp), ordP_cons, if_pos (by unfold hdP; simp [cmpB_zero])]
  rfl
def nfB (x : En) : Bool := decide (ordP x.2.2.1 nfP = 0)
theorem nf_one : ∀ {es : List En}, GoodE es → sumE es ≤ sumE (es.filter fun x => !nfB x) + 1025
  | [], _ => Nat.zero_le _
  | x :: es, h => by
    have hp := (List.pairwise_cons.1 h.sortE)
    have ht : GoodE es := ⟨(List.pairwise_cons.1 h.sort).2, fun y hy => h.pcs y (List.mem_cons_of_mem _ hy)⟩
    by_cases hx : nfB x = true
    · have hno : ∀ y ∈ es, nfB y = false := fun y hy => by
        have h1 := hp.1 y hy
        unfold nfB at hx ⊢
        have hx := of_decide_eq_true hx
        refine decide_eq_false fun hy2 => ?_
        have h2 : ordP nfP y.2.2.1 = 0 := by rw [ordP_anti, hy2]; rfl
        have h3 := ordP_three y.2.2.1 nfP x.2.2.1 (by omega) (by rw [ordP_anti]; omega)
        have h4 := ordP_anti x.2.2.1 y.2.2.1
        omega
      have he : es.filter (fun x => !nfB x) = es := List.filter_eq_self.2 fun y hy => by rw [hno y hy]; rfl
      rw [List.filter_cons_of_neg (by rw [hx]; decide), he, sumE_cons]
      have h5 := (split_wf (s := x.1) (by rw [h.pcs x (List.mem_cons_self ..)])).2.2.2.2.1
      omega
    · have hx : nfB x = false := by simpa using hx
      rw [List.filter_cons_of_pos (by rw [hx]; rfl), sumE_cons, sumE_cons]
      have := nf_one ht
      omega
/-- What the tree weighs, but for one of that form. -/
def WkE (es : List En) (B : Nat) : Prop := GoodE es ∧ sumE (es.filter fun x => !nfB x) ≤ B
theorem WkE.sum {es : List En} {B : Nat} (h : WkE es B) : sumE es ≤ B + 1025 := Nat.le_trans (nf_one h.1) (by have := h.2; omega)
theorem WkE.start {es : List En} {B : Nat} (h : GoodE es) (hB : sumE es ≤ B) : WkE es B := ⟨h, Nat.le_trans (sumE_sub (List.filter_sublist)) hB⟩
theorem WkE.rem {es es' : List En} {B : Nat} {s : ByteArray} {r : Int × Bool} (h : WkE es B) (ht : RemTo es s r es') : WkE es' B := by
  rcases ht with ⟨_, _, rfl⟩ | ⟨i, x, _, _, _, rfl⟩
  · exact h
  · exact ⟨remE_sort h.1 i, Nat.le_trans (sumE_sub ((List.eraseIdx_sublist _ _).filter _)) h.2⟩
theorem WkE.ins {es es' : List En} {B : Nat} {d : ByteArray} {v code : Int} (h : WkE es B) (hd : ∀ n ∈ bl d, n ≠ 47) (ht : InsTo es (newT d) v code es') : WkE es' B := by
  rcases ht with ⟨_, _, rfl⟩ | ⟨_, _, _, rfl⟩ | ⟨h1, h2, _, loc, rfl⟩
  · exact h
  · exact h
  · refine ⟨h.1.ins h1 h2, ?_⟩
    have hf := newT_form hd h1
    have e : (insE es (newT d, loc, (splitP (newT d)).1, v)).filter (fun x => !nfB x) = es.filter (fun x => !nfB x) := by
      unfold insE
      rw [List.filter_append, List.filter_cons_of_neg (by unfold nfB; rw [decide_eq_true hf]; decide), ← List.filter_append, List.take_append_drop]
    rw [e]
    exact h.2
theorem itoa_bl (k : Nat) : ∀ n ∈ bl (itoaT (k : Int)), n ≠ 47 := fun n hn e => by
  unfold itoaT bl at hn
  rw [Lib.itoa_nonneg k] at hn
  obtain ⟨b, hb, rfl⟩ := List.mem_map.1 hn
  exact dec_no47 k b (by simpa using hb) e
theorem itoa_size {k : Nat} (h : k ≤ 4194304) : (itoaT (k : Int)).size ≤ 20 := by
  rw [← size_eq]
  show (Lib.itoa (k : Int)).length ≤ _
  rw [Lib.itoa_nonneg k]
  exact dec_len20 h
/-! What a tree's blocks are: cells. -/
def CellB (w : World) (b : Nat) : Prop := ∃ o : Obj, w.heap[b]? = some o ∧ o.isCells = true
theorem RowF.onCells {S : Nat → Prop} {w : World} {A : Option Addr} {xs : List Value} (h : RowF S w A xs) : RowF (fun b => S b ∧ CellB w b) w A xs := fun h0 => by
  obtain ⟨b, off, e, h1, h2, h3⟩ := h h0
  obtain ⟨x, hx⟩ : ∃ x, xs[0]? = some x := ⟨_, List.getElem?_eq_getElem h0⟩
  obtain ⟨o, ho, hc⟩ := cells_of_cell (h3 0 x hx)
  exact ⟨b, off, e, ⟨h1, o, ho, hc⟩, h2, h3⟩
theorem At.onCells {S : Nat → Prop} {w : World} : ∀ T : Tr, (∀ v, (At S T).1 w v → (At (fun b => S b ∧ CellB w b) T).1 w v) ∧ (∀ ts ps, (At S T).2 w ts ps → (At (fun b => S b ∧ CellB w b) T).2 w ts ps)
  | .none => ⟨fun _ h => h, fun _ _ h => h⟩
  | .node ends kids param rest => ⟨fun v h => by
      obtain ⟨b, TA, tc, KA, kc, ts, ps, pv, rv, h1, h2, h3, c0, c1, c2, c3, c4, r1, r2, k1, k2, k3⟩ := h
      obtain ⟨o, ho, hc⟩ := cells_of_cell c0
      exact ⟨b, TA, tc, KA, kc, ts, ps, pv, rv, h1, ⟨h2, o, ho, hc⟩, h3, c0, c1, c2, c3, c4, r1.onCells, r2.onCells, (At.onCells kids).2 _ _ k1, (At.onCells param).1 _ k2, (At.onCells rest).1 _ k3⟩,
    fun _ _ h => h.elim⟩
  | .kid text t more => ⟨fun _ h => h.elim, fun ts ps h => by
      obtain ⟨p, ts', ps', e1, e2, h1, h2⟩ := h
      exact ⟨p, ts', ps', e1, e2, (At.onCells t).1 _ h1, (At.onCells more).2 _ _ h2⟩⟩
theorem TreeAt.onCells {S : Nat → Prop} {w : World} {q : Nat} {es : List En} (h : TreeAt S w q es) : TreeAt (fun b => S b ∧ CellB w b) w q es := by
  obtain ⟨A, c, rp, T, h1, h2, h3, h4, h5, h6, h7, h8, h9, h10, h11⟩ := h
  exact ⟨A, c, rp, T, fun hq => h1 hq.1, h2, h3, h4, h5, h6, h7, h8.onCells, fun x hx => RowF.onCells (h9 x hx), h10, (At.onCells T).1 _ h11⟩
/-- A tree bears the turn of a block that is no cells. -/
theorem Ko.own {V : Nat → Prop} {w0 w w' : World} {q B : Nat} {es : List En} {row : Option Nat} (h : Ko V w0 w q es B) (hg : w.grownBy w' row) (hr : ∀ r, row = some r → w0.heap.size ≤ r ∧ ∃ o : Obj, w.heap[r]? = some o ∧ o.isCells = false) : Ko V w0 w' q es B := by
  obtain ⟨S, h1, h2, h3, h4, h5, h7, h6⟩ := h
  have hq : ∃ o : Obj, w.heap[q]? = some o ∧ o.isCells = true := by
    obtain ⟨A, c, rp, T, _, _, k3, _⟩ := h1
    exact cells_of_cell k3
  refine ⟨fun b => S b ∧ CellB w b, h1.onCells.hold (Hold.of_grown hg fun b e hb => ?_) (hg.block q h1.lt fun e => ?_), h2, h3, h4, ?_, fun b hb => Nat.lt_of_lt_of_le (h7 b hb.1) hg.size, fun b hb => ⟨fun hs => (h6 b hb).1 hs.1, (h6 b hb).2.1, Nat.lt_of_lt_of_le (h6 b hb).2.2 hg.size⟩⟩
  · obtain ⟨_, o, ho, hc⟩ := hr b e
    obtain ⟨o', ho', hc'⟩ := hb.2
    rw [ho] at ho'
    cases ho'
    rw [hc] at hc'
    cases hc'
  · obtain ⟨_, o, ho, hc⟩ := hr q e.symm
    obtain ⟨o', ho', hc'⟩ := hq
    rw [ho] at ho'
    cases ho'
    rw [hc] at hc'
    cases hc'
  · exact h5.grown hg h5.size fun k e => (hr k e).1
/-! Boxes. -/
abbrev Bxs := List (Nat × TypeId × Value)
def AllBx (W : World) (bx : Bxs) : Prop := ∀ x ∈ bx, Boxed W x.1 x.2.1 x.2.2
section
variable {W W' : World} {bx : Bxs}
theorem AllBx.keep (h : AllBx W bx) (hk : ∀ x ∈ bx, W'.heap[x.1]? = W.heap[x.1]?) : AllBx W' bx := fun x hx => (hk x hx).trans (h x hx)
theorem AllBx.below (h : AllBx W bx) (hb : Below W.heap.size W W') : AllBx W' bx := h.keep fun x hx => hb.block _ (h x hx).lt
theorem AllBx.turn {q : Nat} (h : AllBx W bx) (ht : Turn q W W') (hq : ∀ x ∈ bx, x.1 ≠ q) : AllBx W' bx := h.keep fun x hx => ht.block _ (h x hx).lt (hq x hx)
theorem AllBx.own {row : Option Nat} (h : AllBx W bx) (hg : W.grownBy W' row) (hr : ∀ r, row = some r → ∃ o : Obj, W.heap[r]? = some o ∧ o.isCells = false) : AllBx W' bx := h.keep fun x hx => hg.block _ (h x hx).lt fun e => by
  obtain ⟨o, ho, hc⟩ := hr x.1 e.symm
  have h1 : W.heap[x.1]? = _ := h x hx
  rw [ho] at h1
  cases h1
  cases hc
end
/-- A row bears the turn of a block that is no cells. -/
theorem RowF.keepOwn {S : Nat → Prop} {W W' : World} {A : Option Addr} {xs : List Value} {row : Option Nat} (h : RowF S W A xs) (hg : W.grownBy W' row) (hr : ∀ r, row = some r → ∃ o : Obj, W.heap[r]? = some o ∧ o.isCells = false) : RowF S W' A xs := fun h0 => by
  obtain ⟨b, off, e, ⟨h1, o, ho, hc⟩, h2, h3⟩ := h.onCells h0
  refine ⟨b, off, e, h1, Nat.lt_of_lt_of_le h2 hg.size, fun j v hj => (World.cell?_of_block (a := ⟨b, off + j, none⟩) (hg.block b h2 fun e => ?_)).trans (h3 j v hj)⟩
  obtain ⟨o', ho', hc'⟩ := hr b e.symm
  rw [ho] at ho'
  cases ho'
  rw [hc] at hc'
  cases hc'
theorem AllBx.set {W : World} {bx : Bxs} (h : AllBx W bx) {X : Nat} (hX : ∀ x ∈ bx, x.1 ≠ X) (v : Value) : AllBx (W.setCell ⟨X, 0, none⟩ v) bx := h.keep fun x hx => Below.heap_setCell W ⟨X, 0, none⟩ v x.1 (hX x hx)
theorem AllBx.cons {W : World} {bx : Bxs} {x : Nat × TypeId × Value} (hx : Boxed W x.1 x.2.1 x.2.2) (h : AllBx W bx) : AllBx W (x :: bx) := fun y hy => by
  rcases List.mem_cons.1 hy with rfl | hy
  · exact hx
  · exact h y hy
theorem Ko.set {V : Nat → Prop} {w0 w : World} {q B : Nat} {es : List En} (h : Ko V w0 w q es B) {X : Nat} (hX : V X) (h0 : w0.heap.size ≤ X) (v : Value) : Ko V w0 (w.setCell ⟨X, 0, none⟩ v) q es B :=
  h.grown (grownBy_setCell' w X v) (fun k e => by cases e; exact ⟨hX, h0⟩) (fun b hb => ⟨.inl hb, by have := (h.off hb).1; simpa using this⟩)
theorem RowF.set {S : Nat → Prop} {w : World} {A : Option Addr} {xs : List Value} (h : RowF S w A xs) {X : Nat} (hX : ¬ S X) (v : Value) : RowF S (w.setCell ⟨X, 0, none⟩ v) A xs := h.hold (Hold.of_grown (grownBy_setCell' w X v) (fun b e => by cases e; exact hX))
theorem turn_undrew {q : Nat} {w w' : World} (h : Turn q w.drew w') : Turn q w w' := ⟨h.os, h.tape, h.output, h.size, h.block⟩
theorem below_undrew {w w' : World} (h : Below w.drew.heap.size w.drew w') : Below w.heap.size w w' := ⟨h.os, h.tape, h.output, h.size, h.block⟩
end Go.Proofs.Ytkhgnfofinpofaa
