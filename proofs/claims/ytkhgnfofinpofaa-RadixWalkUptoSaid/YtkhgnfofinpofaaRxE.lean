/-
  A law on a region that draws its order and whose last operation writes a cell that the region loads: what is held of the world need not hold behind that last operation.
-/
import Derived.Deep.RegionHeld3
import Derived.Test.YtkhgnfofinpofaaRxB
namespace Go.Proofs.Ytkhgnfofinpofaa
open Go

section
variable {P : Program} {ops : Array Oper} {Q : Exit → Act → World → Prop} {md : Region.Mode} {S : World → Prop} {t : Nat}
/-- Whatever order is picked from here on, and S holds behind every operation until number t has come up. -/
def anyT (P : Program) (md : Region.Mode) (ops : Array Oper) (Q : Exit → Act → World → Prop) (S : World → Prop) (t : Nat) : Nat → Array Bool → Act → World → Prop
  | 0, listed, a, w => Region.ready md ops listed = [] ∧ Q .normal a w
  | fuel + 1, listed, a, w =>
    (Region.ready md ops listed = [] → Q .normal a w) ∧
    ∀ i ∈ Region.ready md ops listed, wpOp P ops Q i (fun a' w' => ((listed.setIfInBounds i true).getD t false = true ∨ S w') ∧ anyT P md ops Q S t fuel (listed.setIfInBounds i true) a' w') a w
theorem any_of_T : ∀ (fuel : Nat) (listed : Array Bool) (a : Act) (w : World), anyT P md ops Q S t fuel listed a w → wpAny P md ops Q fuel listed a w
  | 0, _, _, _, h => h
  | fuel + 1, _, _, _, h => ⟨h.1, fun i hi => wpOp_mono (fun a' w' h' => any_of_T fuel _ a' w' h'.2) (h.2 i hi)⟩
theorem set_false {l : Array Bool} {j t : Nat} (h : l.getD t false = false) (hj : j ≠ t) : (l.setIfInBounds j true).getD t false = false := by
  simp only [Array.getD_eq_getD_getElem?, Array.getElem?_setIfInBounds_ne hj] at h ⊢
  exact h
theorem set_true {l : Array Bool} {j t : Nat} (h : l.getD t false = true) : (l.setIfInBounds j true).getD t false = true := by
  by_cases hj : j = t
  · subst hj
    rcases Nat.lt_or_ge j l.size with h' | h'
    · simp [h']
    · simp [Array.getElem?_eq_none h'] at h
  · simp only [Array.getD_eq_getD_getElem?, Array.getElem?_setIfInBounds_ne hj] at h ⊢
    exact h
theorem anyT_first {i : Nat} {oi : Oper} {v : Value} (hi : ops[i]? = some oi) (hsel : ∀ (j : Nat) (o : Oper) cs b, ops[j]? = some o → o.op ≠ .select cs b)
    (hQ : ∀ c a w, Q (.panic c) (a.put oi.dst v) w → Q (.panic c) a w) (hwait : ∀ o, ops[t]? = some o → ∃ e ∈ o.after, Region.binds md e = true ∧ e.on = i) :
    ∀ (fuel : Nat) (listed : Array Bool) (a : Act) (w : World),
      (∀ j oj, ops[j]? = some oj → j ≠ i → listed.getD j true = false → (∀ e ∈ oj.after, Region.binds md e = true → e.on ≠ i) → oi.apart ops oj = true) →
      i ∈ Region.ready md ops listed → YieldsIf P ops S oi v a → listed.getD t false = false → S w →
      anyT P md ops Q S t fuel (listed.setIfInBounds i true) (a.put oi.dst v) w → anyT P md ops Q S t (fuel + 1) listed a w := by
  intro fuel
  induction fuel with
  | zero =>
    intro listed a w _ hr hy hT hS H
    refine ⟨fun h => (by rw [h] at hr; cases hr), fun j hj => ?_⟩
    by_cases hji : j = i
    · subst hji; exact hy.wpOp hi hS ⟨.inr hS, H⟩
    · have := ready_mono hj hji
      rw [H.1] at this
      cases this
  | succ fuel ih =>
    intro listed a w hfree hr hy hT hS H
    refine ⟨fun h => (by rw [h] at hr; cases hr), fun j hj => ?_⟩
    by_cases hji : j = i
    · subst hji; exact hy.wpOp hi hS ⟨.inr hS, H⟩
    · have h1 := H.2 j (ready_mono hj hji)
      obtain ⟨hjun, oj, hoj, hall⟩ := mem_ready.1 hj
      have hnot : ∀ e ∈ oj.after, Region.binds md e = true → e.on ≠ i := fun e he hb heq => by
        have h1 := hall e he hb
        have h0 := (mem_ready.1 hr).1
        rw [heq] at h1
        rcases Nat.lt_or_ge i listed.size with h' | h'
        · simp [h'] at h0 h1; rw [h0] at h1; cases h1
        · simp [Array.getElem?_eq_none h'] at h1
      have hjt : j ≠ t := fun e => by
        subst e
        obtain ⟨e, he, hb, heq⟩ := hwait oj hoj
        exact hnot e he hb heq
      have hit : i ≠ t := fun e => by
        subst e
        obtain ⟨e, he, hb, heq⟩ := hwait oi hi
        have h3 := (mem_ready.1 hr).2
        obtain ⟨o2, ho2, hall2⟩ := h3
        rw [hi] at ho2
        injection ho2 with ho2
        subst ho2
        have h4 := hall2 e he hb
        rw [heq] at h4
        rw [show listed.getD i false = listed.getD i false from rfl] at h4
        rw [hT] at h4
        cases h4
      have h2 := wpOp_putIf hoj (hfree j oj hoj hji hjun hnot) (fun cs b => hsel i oi cs b hi) (fun cs b => hsel j oj cs b hoj) hQ hy h1
      have hfree' : ∀ k ok, ops[k]? = some ok → k ≠ i → (listed.setIfInBounds j true).getD k true = false →
          (∀ e ∈ ok.after, Region.binds md e = true → e.on ≠ i) → oi.apart ops ok = true := fun k ok hk hki hun hno => by
        refine hfree k ok hk hki ?_ hno
        by_cases hjk : j = k
        · subst hjk; exact hjun
        · rw [getD_set_ne true hjk] at hun; exact hun
      have hT2 := set_false hT hjt
      refine wpOp_mono (fun a' w' h3 => ?_) h2
      have hS3 : S w' := by
        rcases h3.2.1 with h4 | h4
        · exfalso
          rw [Array.setIfInBounds_comm _ _ (Ne.symm hji)] at h4
          rw [set_false hT2 hit] at h4
          cases h4
        · exact h4
      refine ⟨.inr hS3, ih (listed.setIfInBounds j true) a' w' hfree' (ready_mono hr (Ne.symm hji)) h3.1 hT2 hS3 ?_⟩
      rw [Array.setIfInBounds_comm _ _ hji]
      exact h3.2.2
/-- What yields in whatever world may be taken first, even where number t does not wait for it. -/
theorem anyT_free {i : Nat} {oi : Oper} {v : Value} (hit : i ≠ t) (hi : ops[i]? = some oi) (hsel : ∀ (j : Nat) (o : Oper) cs b, ops[j]? = some o → o.op ≠ .select cs b)
    (hQ : ∀ c a w, Q (.panic c) (a.put oi.dst v) w → Q (.panic c) a w) :
    ∀ (fuel : Nat) (listed : Array Bool) (a : Act) (w : World),
      (∀ j oj, ops[j]? = some oj → j ≠ i → listed.getD j true = false → (∀ e ∈ oj.after, Region.binds md e = true → e.on ≠ i) → oi.apart ops oj = true) →
      i ∈ Region.ready md ops listed → YieldsIf P ops (fun _ => True) oi v a → (listed.getD t false = true ∨ S w) →
      anyT P md ops Q S t fuel (listed.setIfInBounds i true) (a.put oi.dst v) w → anyT P md ops Q S t (fuel + 1) listed a w := by
  intro fuel
  induction fuel with
  | zero =>
    intro listed a w _ hr hy hS H
    refine ⟨fun h => (by rw [h] at hr; cases hr), fun j hj => ?_⟩
    by_cases hji : j = i
    · subst hji; exact hy.wpOp hi trivial ⟨hS.imp set_true id, H⟩
    · have := ready_mono hj hji
      rw [H.1] at this
      cases this
  | succ fuel ih =>
    intro listed a w hfree hr hy hS H
    refine ⟨fun h => (by rw [h] at hr; cases hr), fun j hj => ?_⟩
    by_cases hji : j = i
    · subst hji; exact hy.wpOp hi trivial ⟨hS.imp set_true id, H⟩
    · have h1 := H.2 j (ready_mono hj hji)
      obtain ⟨hjun, oj, hoj, hall⟩ := mem_ready.1 hj
      have hnot : ∀ e ∈ oj.after, Region.binds md e = true → e.on ≠ i := fun e he hb heq => by
        have h1 := hall e he hb
        have h0 := (mem_ready.1 hr).1
        rw [heq] at h1
        rcases Nat.lt_or_ge i listed.size with h' | h'
        · simp [h'] at h0 h1; rw [h0] at h1; cases h1
        · simp [Array.getElem?_eq_none h'] at h1
      have h2 := wpOp_putIf hoj (hfree j oj hoj hji hjun hnot) (fun cs b => hsel i oi cs b hi) (fun cs b => hsel j oj cs b hoj) hQ hy h1
      have hfree' : ∀ k ok, ops[k]? = some ok → k ≠ i → (listed.setIfInBounds j true).getD k true = false →
          (∀ e ∈ ok.after, Region.binds md e = true → e.on ≠ i) → oi.apart ops ok = true := fun k ok hk hki hun hno => by
        refine hfree k ok hk hki ?_ hno
        by_cases hjk : j = k
        · subst hjk; exact hjun
        · rw [getD_set_ne true hjk] at hun; exact hun
      refine wpOp_mono (fun a' w' h3 => ?_) h2
      have hS3 : (listed.setIfInBounds j true).getD t false = true ∨ S w' := by
        rcases h3.2.1 with h4 | h4
        · left
          cases h5 : (listed.setIfInBounds j true).getD t false
          · rw [Array.setIfInBounds_comm _ _ (Ne.symm hji), set_false h5 hit] at h4
            cases h4
          · rfl
        · exact .inr h4
      refine ⟨hS3, ih (listed.setIfInBounds j true) a' w' hfree' (ready_mono hr (Ne.symm hji)) h3.1 hS3 ?_⟩
      rw [Array.setIfInBounds_comm _ _ hji]
      exact h3.2.2
/-- Does operation t wait for operation i? -/
def waitsFor (md : Region.Mode) (ops : Array Oper) (t i : Nat) : Bool := match ops[t]? with
  | some o => o.after.any fun e => Region.binds md e && e.on == i
  | none => true
theorem anyT_take {i : Nat} {oi : Oper} {v : Value} {fuel : Nat} {listed : Array Bool} {a : Act} {w : World} (hi : ops[i]? = some oi)
    (hs : Region.noSelect ops = true) (hf : Region.free md ops listed i = true) (hr : (Region.ready md ops listed).contains i = true) (hwt : waitsFor md ops t i = true) (hT : listed.getD t false = false)
    (hQ : ∀ c a w, Q (.panic c) (a.put oi.dst v) w → Q (.panic c) a w) (hy : YieldsIf P ops S oi v a) (hS : S w)
    (h : anyT P md ops Q S t fuel (listed.setIfInBounds i true) (a.put oi.dst v) w) : anyT P md ops Q S t (fuel + 1) listed a w :=
  anyT_first hi (Region.noSelect_spec hs) hQ (fun o ho => by
    unfold waitsFor at hwt
    rw [ho] at hwt
    dsimp only at hwt
    obtain ⟨j, hj, he⟩ := Array.any_eq_true.1 hwt
    rw [Bool.and_eq_true, beq_iff_eq] at he
    exact ⟨_, Array.getElem_mem hj, he.1, he.2⟩) fuel listed a w (Region.free_spec hi hf) (by simpa using hr) hy hT hS h
theorem anyT_take0 {i : Nat} {oi : Oper} {v : Value} {fuel : Nat} {listed : Array Bool} {a : Act} {w : World} (hi : ops[i]? = some oi)
    (hs : Region.noSelect ops = true) (hf : Region.free md ops listed i = true) (hr : (Region.ready md ops listed).contains i = true) (hit : i ≠ t)
    (hQ : ∀ c a w, Q (.panic c) (a.put oi.dst v) w → Q (.panic c) a w) (hy : YieldsIf P ops (fun _ => True) oi v a) (hS : S w)
    (h : anyT P md ops Q S t fuel (listed.setIfInBounds i true) (a.put oi.dst v) w) : anyT P md ops Q S t (fuel + 1) listed a w :=
  anyT_free hit hi (Region.noSelect_spec hs) hQ fuel listed a w (Region.free_spec hi hf) (by simpa using hr) hy (.inr hS) h
def AllReadyT (P : Program) (md : Region.Mode) (ops : Array Oper) (Q : Exit → Act → World → Prop) (S : World → Prop) (t : Nat) (fuel : Nat) (listed : Array Bool) (a : Act) (w : World) (rs : List Nat) : Prop :=
  ∀ i ∈ rs, wpOp P ops Q i (fun a' w' => ((listed.setIfInBounds i true).getD t false = true ∨ S w') ∧ anyT P md ops Q S t fuel (listed.setIfInBounds i true) a' w') a w
theorem AllReadyT.nil {fuel : Nat} {listed : Array Bool} {a : Act} {w : World} : AllReadyT P md ops Q S t fuel listed a w [] := fun _ h => by cases h
theorem AllReadyT.cons {fuel : Nat} {listed : Array Bool} {a : Act} {w : World} {i : Nat} {o : Oper} {rs : List Nat} (ho : ops[i]? = some o)
    (h : ∀ K' : Act → World → Prop, Shut (∀ a w, ((listed.setIfInBounds i true).getD t false = true ∨ S w) → (((listed.setIfInBounds i true).getD t false = true ∨ S w) → anyT P md ops Q S t fuel (listed.setIfInBounds i true) a w) → K' a w) → if Region.wanted o (yielded ops a.tmps) = true then Oper.wp P o a w K' Q else K' (a.put o.dst undef) w)
    (hs : AllReadyT P md ops Q S t fuel listed a w rs) : AllReadyT P md ops Q S t fuel listed a w (i :: rs) := fun j hj => by
  rcases List.mem_cons.1 hj with rfl | hj
  · exact wpOp_step ho (fun K' hK => h K' (fun a w hS hW => hK a w ⟨hS, hW hS⟩))
  · exact hs j hj
theorem anyT_ready {rs : List Nat} {fuel : Nat} {listed : Array Bool} {a : Act} {w : World} (hr : Region.ready md ops listed = rs) (hne : rs ≠ [])
    (h : AllReadyT P md ops Q S t fuel listed a w rs) : anyT P md ops Q S t (fuel + 1) listed a w :=
  ⟨fun h0 => absurd (hr ▸ h0) hne, hr ▸ h⟩
theorem anyT_done {listed : Array Bool} {a : Act} {w : World} (hr : Region.ready md ops listed = []) (h : Q .normal a w) :
    ∀ fuel, anyT P md ops Q S t fuel listed a w
  | 0 => ⟨hr, h⟩
  | _ + 1 => ⟨fun _ => h, by rw [hr]; simp⟩
theorem region_T {id : Nat} {a : Act} {w : World} (t : Nat) (hm : P.follows .mixedOrders = true) (hS : S w.drew)
    (h : S w.drew → anyT P .any ops Q S t ops.size (Array.replicate ops.size false) a w.drew) : (Code.region id ops true).wp P Q a w :=
  wp_region_any hm (any_of_T _ _ _ _ (h hS))
end
end Go.Proofs.Ytkhgnfofinpofaa

/-
  What build has at hand: words for its two loops.
-/
namespace Go.Proofs.Ytkhgnfofinpofaa
open Go.RowKit Go.Shelf Go.Lib Go.Maps Go.WideMaps

/-- What the first loop of build leaves. -/
structure One (w wr : World) (pl : List Pw) (k : Nat) (F : Nat → Value) (G : Nat → List Wy) : Prop where
  gth : Gth pl G
  len : ∀ i, (G i).length ≤ k
  fam : Fam wr (w.heap.size + 2) F G
  ok : ∀ i, i < 258 → WOk wr (G i)
  mp : Mp wr (w.heap.size + 1) k F
  nil : ∀ i, i < 258 → G i = [] → F i = .slice none 0 0
  own : wr.ownsRow w.heap.size 76 5 (.slice (some ⟨w.heap.size, 0, none⟩) 1 1) 1 [.slice none 0 0, .slice none 0 0, .pointer none, .pointer none, .int .i64 (endsP pl : Int)]
  below : Below w.heap.size w wr
  size : w.heap.size + 2 ≤ wr.heap.size
theorem Mp.mono {w : World} {mb n m : Nat} {F : Nat → Value} (h : Mp w mb n F) (hn : n ≤ m) : Mp w mb m F := let ⟨D, h, hc⟩ := h; ⟨D, h.mono hn, hc⟩
theorem One.start (w : World) : One w ((w.alloc (.cells #[.slice none 0 0, .slice none 0 0, .pointer none, .pointer none, .int .i64 0] 76)).alloc (.map #[] 0)) [] 0 (fun _ => .slice none 0 0) (fun _ => []) where
  gth := Gth.start
  len := fun _ => Nat.le_refl _
  fam := Fam.start _ _
  ok := fun _ _ x hx => by cases hx
  mp := by have := Mp.made (w.alloc (.cells #[.slice none 0 0, .slice none 0 0, .pointer none, .pointer none, .int .i64 0] 76)); simpa using this
  nil := fun _ _ _ => rfl
  own := (World.ownsRow_lit (base := w.heap.size) (e := 76) (size := 5) w #[.slice none 0 0, .slice none 0 0, .pointer none, .pointer none, .int .i64 0] 1 (Nat.le_refl _) (by unfold maxLen; omega) rfl).alloc _
  below := ((Below.refl _ w).alloc (Nat.le_refl _) _).alloc (by simp) _
  size := by simp
section
variable {w wr : World} {pl : List Pw} {k : Nat} {F : Nat → Value} {G : Nat → List Wy}
theorem One.alloc (h : One w wr pl k F G) (o : Obj) : One w (wr.alloc o) pl k F G where
  gth := h.gth
  len := h.len
  fam := h.fam.alloc o
  ok := fun i hi => (h.ok i hi).alloc o
  mp := h.mp.alloc o
  nil := h.nil
  own := h.own.alloc o
  below := h.below.alloc h.below.size o
  size := by have := h.size; simp; omega
theorem One.belowW {w2 : World} (h : One w wr pl k F G) (hb : Below wr.heap.size wr w2) : One w w2 pl k F G where
  gth := h.gth
  len := h.len
  fam := h.fam.below hb
  ok := fun i hi => (h.ok i hi).below hb
  mp := h.mp.below hb (by have := h.size; omega)
  nil := h.nil
  own := own_below h.own hb
  below := h.below.trans (hb.mono h.below.size)
  size := by have := h.size; have := hb.size; omega
/-- A way that ends here. -/
theorem One.ends (h : One w wr pl k F G) {x : Wy} (hx : x.2.2 = []) : One w (wr.setCell ⟨w.heap.size, 4, none⟩ (.int .i64 ((x.1 : Int) + 1))) (pl ++ [plW x]) (k + 1) F G := by
  obtain ⟨h1, h2⟩ := h.own.stored 4 (.int .i64 ((x.1 : Int) + 1))
  have hp : (plW x).2 = [] := hx
  refine ⟨h.gth.ends hx, fun i => Nat.le_succ_of_le (h.len i), h.fam.kept h2 (fun k hk => by simp at hk; omega), fun i hi => (h.ok i hi).grown (u := .slice (some ⟨w.heap.size, 0, none⟩) 1 1) h.own (by decide) h2, (h.mp.kept h2 (by simp)).mono (Nat.le_succ _), h.nil, ?_, h.below.grown h2 h.below.size (fun k hk => by simp at hk; omega), by have := h.size; have := h2.size; omega⟩
  rw [endsP_snoc, hp]
  exact h1
/-- A way whose first edge is one of its own. -/
theorem One.edge (h : One w wr pl k F G) {x : Wy} {p : Pc} {r : List Pc} (hx : x.2.2 = p :: r) {y : Wy} (hy : plW y = (x.1, r)) (i : Nat) (hi : (i = 256 ∧ p.1 = 1) ∨ (i = 257 ∧ p.1 = 2)) {w2 : World} {v' : Value}
    (hw : WOne wr y) (ho : w2.ownsRow (w.heap.size + 2) 127 2 v' ((G i).length + 1) (flatW (G i) ++ flatW [y])) (hg : wr.grownBy w2 (F i).ownBlock) (alt : v'.ownBlock = (F i).ownBlock ∨ v'.ownBlock = some wr.heap.size) :
    One w w2 (pl ++ [plW x]) (k + 1) (upd F i v') (upd G i (G i ++ [y])) := by
  have hi2 : i < 258 := by omega
  have hp : (plW x).2 = p :: r := hx
  have hlo := own_lt (h.fam.own i hi2)
  refine ⟨h.gth.edge hx hy i hi, fun j => ?_, h.fam.grow hi2 hg ho alt, fun j hj => ?_, ?_, fun j hj hG => ?_, ?_, h.below.grown hg h.below.size (fun q hq => by have := hlo q hq; omega), by have := h.size; have := hg.size; omega⟩
  · by_cases e : j = i
    · subst e
      rw [upd_same, List.length_append]
      have := h.len j
      simp
      omega
    · rw [upd_other e]
      have := h.len j
      omega
  · by_cases e : j = i
    · subst e
      rw [upd_same]
      exact WOk.grown (WOk.append (h.ok j hj) (WOk.one hw)) (h.fam.own j hj) (by decide) hg
    · rw [upd_other e]
      exact WOk.grown (h.ok j hj) (h.fam.own i hi2) (by decide) hg
  · obtain ⟨D, ho2, hm, ha⟩ := (h.mp.kept hg (fun e => by have := hlo _ e.symm; omega)).mono (Nat.le_succ k)
    exact ⟨D, ho2, hm, fun c hc => by rw [upd_other (by omega)]; exact ha c hc⟩
  · by_cases e : j = i
    · subst e
      rw [upd_same] at hG
      exact absurd hG (by simp)
    · rw [upd_other e] at hG ⊢
      exact h.nil j hj hG
  · rw [endsP_snoc, hp]
    exact h.own.kept hg (.inr (fun e => by have h3 : w.heap.size + 2 ≤ w.heap.size := hlo _ e.symm; omega))
end
/-- A map's block turns. -/
theorem WOne.keptM {w w' : World} {x : Wy} (h : WOne w x) {mb n : Nat} {F : Nat → Value} (hm : Mp w mb n F) (hg : w.grownBy w' (some mb)) : WOne w' x := by
  have key : ∀ b, (∃ cs, w.heap[b]? = some (.cells cs 99)) → some b ≠ some mb := fun b ⟨cs, hc⟩ e => by
    injection e with e
    subst e
    obtain ⟨D, ⟨es, clock, hh, _⟩, _⟩ := hm
    rw [hc] at hh
    injection hh with hh
    cases hh
  refine ⟨fun hl => ?_, fun b off e => ?_, h.2.2⟩
  · obtain ⟨b, off, e, hb, hc⟩ := h.1 hl
    exact ⟨b, off, e, Nat.lt_of_lt_of_le hb hg.size, fun j v hv => (cell_far hg ⟨b, off + j, none⟩ hb (key b (h.2.1 b off e))).trans (hc j v hv)⟩
  · obtain ⟨cs, hc⟩ := h.2.1 b off e
    exact ⟨cs, (hg.block b (Array.getElem?_eq_some_iff.1 hc).1 (key b ⟨cs, hc⟩)).trans hc⟩
section
variable {w wr : World} {pl : List Pw} {k : Nat} {F : Nat → Value} {G : Nat → List Wy}
/-- A way whose first edge is a text. -/
theorem One.text (h : One w wr pl k F G) {x : Wy} {p : Pc} {r : List Pc} (hx : x.2.2 = p :: r) (h1 : p.1 = 0) {c : Nat} (hc : c < 256) (hb : bt p.2 0 = c) {w2 w3 : World} {v' : Value}
    (hw : WOne wr x) (ho : w2.ownsRow (w.heap.size + 2) 127 2 v' ((G c).length + 1) (flatW (G c) ++ flatW [x])) (hg : wr.grownBy w2 (F c).ownBlock) (alt : v'.ownBlock = (F c).ownBlock ∨ v'.ownBlock = some wr.heap.size)
    (hm : Mp w3 (w.heap.size + 1) (k + 1) (upd F c v')) (hg3 : w2.grownBy w3 (some (w.heap.size + 1))) :
    One w w3 (pl ++ [plW x]) (k + 1) (upd F c v') (upd G c (G c ++ [x])) := by
  have hi2 : c < 258 := by omega
  have hp : (plW x).2 = p :: r := hx
  have hlo := own_lt (h.fam.own c hi2)
  have hmp2 : Mp w2 (w.heap.size + 1) k F := h.mp.kept hg (fun e => by have := hlo _ e.symm; omega)
  have hb2 : Below w.heap.size w w2 := h.below.grown hg h.below.size (fun q hq => by have := hlo q hq; omega)
  refine ⟨h.gth.text hx (by omega) (by omega) hc hb, fun j => ?_, (h.fam.grow hi2 hg ho alt).kept hg3 (fun q hq => by injection hq with hq; omega), fun j hj => ?_, hm, fun j hj hG => ?_, ?_, hb2.grown hg3 hb2.size (fun q hq => by injection hq with hq; omega), by have := h.size; have := hg.size; have := hg3.size; omega⟩
  · by_cases e : j = c
    · subst e
      rw [upd_same, List.length_append]
      have := h.len j
      simp
      omega
    · rw [upd_other e]
      have := h.len j
      omega
  · by_cases e : j = c
    · subst e
      rw [upd_same]
      exact fun y hy => ((WOk.grown (WOk.append (h.ok j hj) (WOk.one hw)) (h.fam.own j hj) (by decide) hg) y hy).keptM hmp2 hg3
    · rw [upd_other e]
      exact fun y hy => ((WOk.grown (h.ok j hj) (h.fam.own c hi2) (by decide) hg) y hy).keptM hmp2 hg3
  · by_cases e : j = c
    · subst e
      rw [upd_same] at hG
      exact absurd hG (by simp)
    · rw [upd_other e] at hG ⊢
      exact h.nil j hj hG
  · rw [endsP_snoc, hp]
    exact (h.own.kept hg (.inr (fun e => by have h3 : w.heap.size + 2 ≤ w.heap.size := hlo _ e.symm; omega))).kept hg3 (.inr (fun e => by
      have e2 : (some w.heap.size : Option Nat) = some (w.heap.size + 1) := e
      injection e2 with e2
      omega))
end
/-- What build has at hand behind its first loop. -/
structure Two (w wr : World) (F : Nat → Value) (G : Nat → List Wy) (S : Nat → Prop) (tv kv pv rv : Value) (ends : Nat) (tx : List ByteArray) (ts : List (ByteArray × Tr)) (ps : List Value) (PT RT : Tr) : Prop where
  fam : Fam wr (w.heap.size + 2) F G
  ok : ∀ i, i < 258 → WOk wr (G i)
  mp : ∃ n, Mp wr (w.heap.size + 1) n F
  nil : ∀ i, i < 258 → G i = [] → F i = .slice none 0 0
  own : wr.ownsRow w.heap.size 76 5 (.slice (some ⟨w.heap.size, 0, none⟩) 1 1) 1 [tv, kv, pv, rv, .int .i64 (ends : Int)]
  texts : wr.ownsRow (w.heap.size + 2) 9 1 tv tx.length (tx.map .string)
  kids : wr.ownsRow (w.heap.size + 2) 73 1 kv ps.length ps
  kl : KL S wr ts ps
  param : (At S PT).1 wr pv
  rest : (At S RT).1 wr rv
  ext : ∀ b, S b → w.heap.size + 2 ≤ b ∧ b < wr.heap.size
  offT : ∀ b, tv.ownBlock = some b → ¬ S b
  offK : ∀ b, kv.ownBlock = some b → ¬ S b
  below : Below w.heap.size w wr
  size : w.heap.size + 2 ≤ wr.heap.size
theorem Two.start {w wr : World} {pl : List Pw} {k : Nat} {F : Nat → Value} {G : Nat → List Wy} (h : One w wr pl k F G) :
    Two w wr F G (fun _ => False) (.slice none 0 0) (.slice none 0 0) (.pointer none) (.pointer none) (endsP pl) [] [] [] .none .none where
  fam := h.fam
  ok := h.ok
  mp := ⟨_, h.mp⟩
  nil := h.nil
  own := h.own
  texts := World.ownsRow_nil _ _ _ _
  kids := World.ownsRow_nil _ _ _ _
  kl := trivial
  param := rfl
  rest := rfl
  ext := fun _ h => h.elim
  offT := fun _ _ h => h
  offK := fun _ _ h => h
  below := h.below
  size := h.size
section
variable {w wr w2 : World} {F : Nat → Value} {G : Nat → List Wy} {S : Nat → Prop} {tv kv pv rv : Value} {ends : Nat} {tx : List ByteArray} {ts : List (ByteArray × Tr)} {ps : List Value} {PT RT : Tr}
theorem Two.belowW (h : Two w wr F G S tv kv pv rv ends tx ts ps PT RT) (hb : Below wr.heap.size wr w2) : Two w w2 F G S tv kv pv rv ends tx ts ps PT RT where
  fam := h.fam.below hb
  ok := fun i hi => (h.ok i hi).below hb
  mp := let ⟨n, hm⟩ := h.mp; ⟨n, hm.below hb (by have := h.size; omega)⟩
  nil := h.nil
  own := own_below h.own hb
  texts := own_below h.texts hb
  kids := own_below h.kids hb
  kl := KL.hold (Hold.of_below hb) _ _ h.kl
  param := (At.hold (Hold.of_below hb) PT).1 _ h.param
  rest := (At.hold (Hold.of_below hb) RT).1 _ h.rest
  ext := fun b hb2 => ⟨(h.ext b hb2).1, Nat.lt_of_lt_of_le (h.ext b hb2).2 hb.size⟩
  offT := h.offT
  offK := h.offK
  below := h.below.trans (hb.mono h.below.size)
  size := Nat.le_trans h.size hb.size
/-- A call has made a tree. -/
theorem Two.child (h : Two w wr F G S tv kv pv rv ends tx ts ps PT RT) {T : Tr} {v : Value} (hb : Below wr.heap.size wr w2) (hv : (At (fun b => wr.heap.size ≤ b) T).1 w2 v) :
    Two w w2 F G (fun b => S b ∨ (wr.heap.size ≤ b ∧ b < w2.heap.size)) tv kv pv rv ends tx ts ps PT RT ∧ (At (fun b => S b ∨ (wr.heap.size ≤ b ∧ b < w2.heap.size)) T).1 w2 v := by
  have h2 := h.belowW hb
  have hs := h.size
  have hbs := hb.size
  refine ⟨⟨h2.fam, h2.ok, h2.mp, h2.nil, h2.own, h2.texts, h2.kids, KL.mono (fun b hb _ => .inl hb) _ _ h2.kl, (At.mono (fun b hb _ => .inl hb) PT).1 _ h2.param, (At.mono (fun b hb _ => .inl hb) RT).1 _ h2.rest, fun b hb => ?_, fun b hb hS => ?_, fun b hb hS => ?_, h2.below, h2.size⟩, (At.mono (fun b hb hl => .inr ⟨hb, hl⟩) T).1 _ hv⟩
  · rcases hb with hb | hb
    · exact h2.ext b hb
    · exact ⟨by omega, hb.2⟩
  · rcases hS with hS | hS
    · exact h.offT b hb hS
    · have := own_blt h.texts b hb; omega
  · rcases hS with hS | hS
    · exact h.offK b hb hS
    · have := own_blt h.kids b hb; omega
/-- A store into the node. -/
theorem store_core (fam : Fam wr (w.heap.size + 2) F G) (ok : ∀ i, i < 258 → WOk wr (G i)) (mp : ∃ n, Mp wr (w.heap.size + 1) n F) (nil : ∀ i, i < 258 → G i = [] → F i = .slice none 0 0)
    (own : wr.ownsRow w.heap.size 76 5 (.slice (some ⟨w.heap.size, 0, none⟩) 1 1) 1 [tv, kv, pv, rv, .int .i64 (ends : Int)]) (ext : ∀ b, S b → w.heap.size + 2 ≤ b ∧ b < wr.heap.size) (below : Below w.heap.size w wr) (size : w.heap.size + 2 ≤ wr.heap.size)
    (j : Nat) (u : Value) {tv' kv' pv' rv' : Value} (hl : [tv, kv, pv, rv, .int .i64 (ends : Int)].set j u = [tv', kv', pv', rv', .int .i64 (ends : Int)])
    {tx' : List ByteArray} {ts' : List (ByteArray × Tr)} {ps' : List Value} {PT' RT' : Tr} (htx : wr.ownsRow (w.heap.size + 2) 9 1 tv' tx'.length (tx'.map .string)) (hps : wr.ownsRow (w.heap.size + 2) 73 1 kv' ps'.length ps')
    (hkl : KL S wr ts' ps') (hP : (At S PT').1 wr pv') (hR : (At S RT').1 wr rv') (hoT : ∀ b, tv'.ownBlock = some b → ¬ S b) (hoK : ∀ b, kv'.ownBlock = some b → ¬ S b) :
    Two w (wr.setCell ⟨w.heap.size, j, none⟩ u) F G S tv' kv' pv' rv' ends tx' ts' ps' PT' RT' := by
  obtain ⟨h1, h2⟩ := own.stored j u
  rw [hl] at h1
  have hh : Hold S wr (wr.setCell ⟨w.heap.size, j, none⟩ u) := Hold.of_grown h2 (fun b e hS => by simp at e; have := (ext b hS).1; omega)
  have hne : ∀ (v : Value) {E sz n xs}, wr.ownsRow (w.heap.size + 2) E sz v n xs → (wr.setCell ⟨w.heap.size, j, none⟩ u).ownsRow (w.heap.size + 2) E sz v n xs := fun v _ _ _ _ ho => ho.kept h2 (by
    cases hv : v.ownBlock with
    | none => exact .inl rfl
    | some q => exact .inr (fun e => by have h3 := own_lt ho q hv; simp at e; omega))
  obtain ⟨n, hm⟩ := mp
  exact ⟨fam.kept h2 (fun q hq => by simp at hq; omega), fun i hi => (ok i hi).grown (u := .slice (some ⟨w.heap.size, 0, none⟩) 1 1) own (by decide) h2, ⟨n, hm.kept h2 (by simp)⟩, nil, h1, hne _ htx, hne _ hps, KL.hold hh _ _ hkl, (At.hold hh PT').1 _ hP, (At.hold hh RT').1 _ hR,
    fun b hb => ⟨(ext b hb).1, Nat.lt_of_lt_of_le (ext b hb).2 h2.size⟩, hoT, hoK, below.grown h2 below.size (fun q hq => by simp at hq; omega), Nat.le_trans size h2.size⟩
theorem Two.setParam (h : Two w wr F G S tv kv pv rv ends tx ts ps PT RT) {T : Tr} {v : Value} (hv : (At S T).1 wr v) : Two w (wr.setCell ⟨w.heap.size, 2, none⟩ v) F G S tv kv v rv ends tx ts ps T RT :=
  store_core h.fam h.ok h.mp h.nil h.own h.ext h.below h.size 2 v rfl h.texts h.kids h.kl hv h.rest h.offT h.offK
theorem Two.setRest (h : Two w wr F G S tv kv pv rv ends tx ts ps PT RT) {T : Tr} {v : Value} (hv : (At S T).1 wr v) : Two w (wr.setCell ⟨w.heap.size, 3, none⟩ v) F G S tv kv pv v ends tx ts ps PT T :=
  store_core h.fam h.ok h.mp h.nil h.own h.ext h.below h.size 3 v rfl h.texts h.kids h.kl h.param hv h.offT h.offK
/-- The edges' texts grow, in their row; the node is not told yet. -/
theorem Two.grown (h : Two w wr F G S tv kv pv rv ends tx ts ps PT RT) {E : TypeId} {u : Value} {n : Nat} {xs : List Value} (ho : wr.ownsRow (w.heap.size + 2) E 1 u n xs) (hE1 : E ≠ 127) (hE2 : E ≠ 99) (hg : wr.grownBy w2 u.ownBlock) (hS : ∀ b, u.ownBlock = some b → ¬ S b) :
    Fam w2 (w.heap.size + 2) F G ∧ (∀ i, i < 258 → WOk w2 (G i)) ∧ (∃ n, Mp w2 (w.heap.size + 1) n F) ∧ w2.ownsRow w.heap.size 76 5 (.slice (some ⟨w.heap.size, 0, none⟩) 1 1) 1 [tv, kv, pv, rv, .int .i64 (ends : Int)] ∧ Hold S wr w2 ∧ Below w.heap.size w w2 := by
  have hlo := own_lt ho
  obtain ⟨m, hm⟩ := h.mp
  exact ⟨h.fam.beside ho hE1 hg, fun i hi => (h.ok i hi).grown ho hE2 hg, ⟨m, hm.kept hg (fun e => by have := hlo _ e.symm; omega)⟩, h.own.kept hg (.inr (fun e => by have h3 : w.heap.size + 2 ≤ w.heap.size := hlo _ e.symm; omega)), Hold.of_grown hg hS, h.below.grown hg h.below.size (fun q hq => by have := hlo q hq; omega)⟩
theorem Two.addText (h : Two w wr F G S tv kv pv rv ends tx ts ps PT RT) {x : ByteArray} {tv' : Value} (hg : wr.grownBy w2 tv.ownBlock) (ho : w2.ownsRow (w.heap.size + 2) 9 1 tv' (tx.length + 1) (tx.map .string ++ [.string x])) (alt : tv'.ownBlock = tv.ownBlock ∨ tv'.ownBlock = some wr.heap.size) :
    Two w (w2.setCell ⟨w.heap.size, 0, none⟩ tv') F G S tv' kv pv rv ends (tx ++ [x]) ts ps PT RT := by
  obtain ⟨a, b, c, d, e, f⟩ := h.grown h.texts (by decide) (by decide) hg h.offT
  have hoT : ∀ b, tv'.ownBlock = some b → ¬ S b := fun b hb hS => by
    rcases alt with e | e
    · exact h.offT b (by rw [← e]; exact hb) hS
    · rw [hb] at e
      injection e with e
      have := (h.ext b hS).2
      omega
  have hk : w2.ownsRow (w.heap.size + 2) 73 1 kv ps.length ps := own_other h.kids hg (apart_types h.texts h.kids (by decide))
  exact store_core a b c h.nil d (fun b hb => ⟨(h.ext b hb).1, Nat.lt_of_lt_of_le (h.ext b hb).2 hg.size⟩) f (Nat.le_trans h.size hg.size) 0 tv' rfl (by rw [List.length_append, List.map_append]; exact ho) hk (KL.hold e _ _ h.kl) ((At.hold e PT).1 _ h.param) ((At.hold e RT).1 _ h.rest) hoT h.offK
theorem Two.addKid (h : Two w wr F G S tv kv pv rv ends tx ts ps PT RT) {x : ByteArray × Tr} {p kv' : Value} (hp : (At S x.2).1 wr p) (hg : wr.grownBy w2 kv.ownBlock) (ho : w2.ownsRow (w.heap.size + 2) 73 1 kv' (ps.length + 1) (ps ++ [p])) (alt : kv'.ownBlock = kv.ownBlock ∨ kv'.ownBlock = some wr.heap.size) :
    Two w (w2.setCell ⟨w.heap.size, 1, none⟩ kv') F G S tv kv' pv rv ends tx (ts ++ [x]) (ps ++ [p]) PT RT := by
  obtain ⟨a, b, c, d, e, f⟩ := h.grown h.kids (by decide) (by decide) hg h.offK
  have hoK : ∀ b, kv'.ownBlock = some b → ¬ S b := fun b hb hS => by
    rcases alt with e | e
    · exact h.offK b (by rw [← e]; exact hb) hS
    · rw [hb] at e
      injection e with e
      have := (h.ext b hS).2
      omega
  have hk : w2.ownsRow (w.heap.size + 2) 9 1 tv tx.length (tx.map .string) := own_other h.texts hg (apart_types h.kids h.texts (by decide))
  exact store_core a b c h.nil d (fun b hb => ⟨(h.ext b hb).1, Nat.lt_of_lt_of_le (h.ext b hb).2 hg.size⟩) f (Nat.le_trans h.size hg.size) 1 kv' rfl hk (by rw [List.length_append]; exact ho) (KL.snoc _ _ (KL.hold e _ _ h.kl) ((At.hold e x.2).1 _ hp)) ((At.hold e PT).1 _ h.param) ((At.hold e RT).1 _ h.rest) h.offT hoK
/-- The node is done. -/
theorem Two.done (h : Two w wr F G S tv kv pv rv ends tx ts ps PT RT) (htx : tx = ts.map (·.1)) : (At (fun b => w.heap.size ≤ b) (.node ends (chain ts) PT RT)).1 wr (.pointer (some ⟨w.heap.size, 0, none⟩)) := by
  subst htx
  have hs := h.size
  have mono : ∀ b, S b → b < wr.heap.size → w.heap.size ≤ b := fun b hb _ => by have := (h.ext b hb).1; omega
  obtain ⟨TA, tc, e1⟩ := own_slice h.texts
  obtain ⟨KA, kc, e2⟩ := own_slice h.kids
  have ht := h.texts
  have hk := h.kids
  have hc := fun j (hj : j < 5) => h.own.cellAt j (by omega)
  rw [e1] at ht hc
  rw [e2] at hk hc
  have hl : (ts.map (·.1)).length = (ts.map fun x => Value.string x.1).length := by simp
  have hm : (ts.map (·.1)).map Value.string = ts.map fun x => Value.string x.1 := by simp
  rw [hm] at ht
  refine ⟨w.heap.size, TA, tc, KA, kc, ts.map fun x => .string x.1, ps, pv, rv, rfl, Nat.le_refl _, by omega, by rw [← hl]; exact hc 0 (by omega), hc 1 (by omega), hc 2 (by omega), hc 3 (by omega), hc 4 (by omega), ?_, ?_, ?_, (At.mono mono PT).1 _ h.param, (At.mono mono RT).1 _ h.rest⟩
  · exact RowF.own ht (fun b hb => by have := own_lt ht b hb; omega)
  · exact RowF.own hk (fun b hb => by have := own_lt hk b hb; omega)
  · exact (At.mono mono (chain ts)).2 _ _ (KL.chain _ _ h.kl)
end
theorem edge_ent {k : Int} {ws : List Pw} {x : Pw} (h : x ∈ edgeP k ws) : ∃ y ∈ ws, y.1 = x.1 := by
  unfold edgeP at h
  obtain ⟨y, hy, hx⟩ := List.mem_flatMap.1 h
  unfold edgeOne at hx
  split at hx
  · cases hx
  · split at hx
    · obtain rfl : x = (y.1, _) := by simpa using hx
      exact ⟨y, hy, rfl⟩
    · cases hx
theorem cut_ent {n : Nat} {ws : List Pw} {x : Pw} (h : x ∈ cutP n ws) : ∃ y ∈ ws, y.1 = x.1 := by
  unfold cutP at h
  obtain ⟨y, hy, rfl⟩ := List.mem_map.1 h
  exact ⟨y, hy, rfl⟩
theorem cut_length (n : Nat) (ws : List Pw) : (cutP n ws).length = ws.length := by unfold cutP; rw [List.length_map]
theorem tot_mem {ws : List Pw} {x : Pw} (h : x ∈ ws) : totS x.2 ≤ meas ws := by
  induction ws with
  | nil => cases h
  | cons y ws ih =>
    rw [meas_cons]
    rcases List.mem_cons.1 h with rfl | h
    · omega
    · have := ih h; omega
theorem tot_first {x : Pw} : x.2.length ≤ totS x.2 ∧ (txt x).size ≤ totS x.2 := by
  obtain ⟨i, l⟩ := x
  refine ⟨totP_len l, ?_⟩
  cases l with
  | nil => exact Nat.zero_le _
  | cons p r => rw [totS_cons]; show p.2.size ≤ _; omega
theorem kids_step (B : List Pw → Tr) (ws : List Pw) (c : Nat) : kidsL B ws (c + 1) = kidsL B ws c ++ kidOne B (groupP c ws) := rfl
theorem kid_none {B : List Pw → Tr} {g : List Pw} (h : g = []) : kidOne B g = [] := if_pos h
theorem kid_some {B : List Pw → Tr} {g : List Pw} (h : ¬ g = []) : kidOne B g = [(commonP g, B (cutP (commonP g).size g))] := if_neg h
theorem edgeT_none {B : List Pw → Tr} {g : List Pw} (h : g = []) : edgeT B g = .none := if_pos h
theorem edgeT_some {B : List Pw → Tr} {g : List Pw} (h : ¬ g = []) : edgeT B g = B g := if_neg h
/-- A family's row that is not empty. -/
theorem Two.slice {w wr : World} {F : Nat → Value} {G : Nat → List Wy} {S : Nat → Prop} {tv kv pv rv : Value} {ends : Nat} {tx : List ByteArray} {ts : List (ByteArray × Tr)} {ps : List Value} {PT RT : Tr} (h : Two w wr F G S tv kv pv rv ends tx ts ps PT RT) {i : Nat} (hi : i < 258) (hne : ¬ G i = []) :
    ∃ g c, F i = .slice (some ⟨g, 0, none⟩) (G i).length c ∧ Row wr (some ⟨g, 0, none⟩) (flatW (G i)) := by
  have ho := h.fam.own i hi
  obtain ⟨A, c, e⟩ := own_slice ho
  rw [e] at ho
  have hr := own_row ho
  rcases ho.2 with ⟨e2, h2⟩ | ⟨g, cap, cur, e2, _⟩
  · injection e2 with e2 e3
    exact absurd (List.eq_nil_of_length_eq_zero e3) hne
  · injection e2 with e2 _ _
    subst e2
    exact ⟨g, c, e, hr⟩
theorem Two.cast {w wr : World} {F : Nat → Value} {G : Nat → List Wy} {S : Nat → Prop} {tv kv pv rv : Value} {ends : Nat} {tx : List ByteArray} {ts : List (ByteArray × Tr)} {ps : List Value} {PT RT PT' RT' : Tr} (h : Two w wr F G S tv kv pv rv ends tx ts ps PT RT) (e1 : PT = PT') (e2 : RT = RT') : Two w wr F G S tv kv pv rv ends tx ts ps PT' RT' := by
  subst e1
  subst e2
  exact h
/-- What is known of the ways of a group. -/
theorem group_wy {l g : List Wy} {c : Nat} (hg : g.map plW = groupP c (l.map plW)) : ∀ x ∈ g, x.2.2 ≠ [] ∧ x.2.2.length ≤ meas (l.map plW) ∧ (txt (plW x)).size ≤ meas (l.map plW) ∧ (commonP (groupP c (l.map plW))).size ≤ (txt (plW x)).size := fun x hx => by
  have hm : plW x ∈ groupP c (l.map plW) := by rw [← hg]; exact List.mem_map_of_mem hx
  obtain ⟨h1, p, r, h2, _⟩ := group_mem hm
  have h3 := tot_mem h1
  have h4 := @tot_first (plW x)
  exact ⟨fun e => (by rw [show x.2.2 = (plW x).2 from rfl, h2] at e; cases e), Nat.le_trans h4.1 h3, Nat.le_trans h4.2 h3, common_all hm⟩
theorem info_ptr : (Try.prog.info? 73).map (fun i => (i.zero, i.size, i.bytes)) = some (some (.pointer none), 1, 8) := by kernel_rfl
theorem edge_le {l g : List Wy} {k : Int} {B : Nat} (hg : g.map plW = edgeP k (l.map plW)) (h : ∀ x ∈ l, x.1 ≤ B) : ∀ x ∈ g, x.1 ≤ B := fun x hx => by
  have hm : plW x ∈ edgeP k (l.map plW) := by rw [← hg]; exact List.mem_map_of_mem hx
  obtain ⟨y, hy, e⟩ := edge_ent hm
  obtain ⟨z, hz, e2⟩ := List.mem_map.1 hy
  have h3 := h z hz
  have h4 : z.1 = x.1 := by rw [← e2] at e; exact e
  omega
theorem cut_le {l g : List Wy} {n c : Nat} {B : Nat} (hg : g.map plW = cutP n (groupP c (l.map plW))) (h : ∀ x ∈ l, x.1 ≤ B) : ∀ x ∈ g, x.1 ≤ B := fun x hx => by
  have hm : plW x ∈ cutP n (groupP c (l.map plW)) := by rw [← hg]; exact List.mem_map_of_mem hx
  obtain ⟨y, hy, e⟩ := cut_ent hm
  obtain ⟨z, hz, e2⟩ := List.mem_map.1 (group_mem hy).1
  have h3 := h z hz
  have h4 : z.1 = x.1 := by rw [← e2] at e; exact e
  omega
end Go.Proofs.Ytkhgnfofinpofaa
