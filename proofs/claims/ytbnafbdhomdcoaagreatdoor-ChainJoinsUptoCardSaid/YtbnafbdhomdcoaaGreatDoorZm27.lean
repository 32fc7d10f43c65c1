/-
  CjReg, TgAw, without what the claim does not reach.
-/
import Derived.Test.YtbnafbdhomdcoaaGreatDoorZPlain
import Derived.Deep.RegionHeld3
import Derived.Test.YtbnafbdhomdcoaaGreatDoorZm19
namespace Go.Proofs.YtbnafbdhomdcoaaGreatDoor
open Go
open Go.RowKit
section
variable {P : Program} {ops : Array Oper} {Q : Exit → Act → World → Prop} {md : Region.Mode} {S : World → Prop} {t : Nat}
def anyT (P : Program) (md : Region.Mode) (ops : Array Oper) (Q : Exit → Act → World → Prop) (S : World → Prop) (t : Nat) : Nat → Array Bool → Act → World → Prop
 | 0, listed, a, w => Region.ready md ops listed = [] ∧ Q .normal a w
 | fuel + 1, listed, a, w =>
  (Region.ready md ops listed = [] → Q .normal a w) ∧
  ∀ i ∈ Region.ready md ops listed, wpOp P ops Q i (fun a' w' => ((listed.setIfInBounds i true).getD t false = true ∨ S w') ∧ anyT P md ops Q S t fuel (listed.setIfInBounds i true) a' w') a w
theorem any_of_T : ∀ (fuel : Nat) (listed : Array Bool) (a : Act) (w : World), anyT P md ops Q S t fuel listed a w → wpAny P md ops Q fuel listed a w
 | 0, _, _, _, h => h
 | fuel + 1, _, _, _, h => ⟨h.1, fun i hi => wpOp_mono (fun a' w' h' => any_of_T fuel _ a' w' h'.2) (h.2 i hi)⟩
theorem set_false {l : Array Bool} {j t : Nat} (h : l.getD t false = false) (hj : j ≠ t) : (l.setIfInBounds j true).getD t false = false := by
 simp only [Array.getD_eq_getD_getElem?, Array.getElem?_setIfInBounds_ne hj] at h ⊢
 exact h
theorem anyT_first {i : Nat} {oi : Oper} {v : Value} (hi : ops[i]? = some oi) (hsel : ∀ (j : Nat) (o : Oper) cs b, ops[j]? = some o → o.op ≠ .select cs b)
  (hQ : ∀ c a w, Q (.panic c) (a.put oi.dst v) w → Q (.panic c) a w) (hwait : ∀ o, ops[t]? = some o → ∃ e ∈ o.after, Region.binds md e = true ∧ e.on = i) :
  ∀ (fuel : Nat) (listed : Array Bool) (a : Act) (w : World),
   (∀ j oj, ops[j]? = some oj → j ≠ i → listed.getD j true = false → (∀ e ∈ oj.after, Region.binds md e = true → e.on ≠ i) → oi.apart ops oj = true) →
   i ∈ Region.ready md ops listed → YieldsIf P ops S oi v a → listed.getD t false = false → S w →
   anyT P md ops Q S t fuel (listed.setIfInBounds i true) (a.put oi.dst v) w → anyT P md ops Q S t (fuel + 1) listed a w := by
 intro fuel
 induction fuel with
 | zero =>
  intro listed a w _ hr hy hT hS H
  refine ⟨fun h => (by rw [h] at hr; cases hr), fun j hj => ?_⟩
  by_cases hji : j = i
  ·subst hji; exact hy.wpOp hi hS ⟨.inr hS, H⟩
  ·have := ready_mono hj hji
   rw [H.1] at this
   cases this
 | succ fuel ih =>
  intro listed a w hfree hr hy hT hS H
  refine ⟨fun h => (by rw [h] at hr; cases hr), fun j hj => ?_⟩
  by_cases hji : j = i
  ·subst hji; exact hy.wpOp hi hS ⟨.inr hS, H⟩
  ·have h1 := H.2 j (ready_mono hj hji)
   obtain ⟨hjun, oj, hoj, hall⟩ := mem_ready.1 hj
   have hnot : ∀ e ∈ oj.after, Region.binds md e = true → e.on ≠ i := fun e he hb heq => by
    have h1 := hall e he hb
    have h0 := (mem_ready.1 hr).1
    rw [heq] at h1
    rcases Nat.lt_or_ge i listed.size with h' | h'
    ·simp [h'] at h0 h1; rw [h0] at h1; cases h1
    ·simp [Array.getElem?_eq_none h'] at h1
   have hjt : j ≠ t := fun e => by
    subst e
    obtain ⟨e, he, hb, heq⟩ := hwait oj hoj
    exact hnot e he hb heq
   have hit : i ≠ t := fun e => by
    subst e
    obtain ⟨e, he, hb, heq⟩ := hwait oi hi
    have h3 := (mem_ready.1 hr).2
    obtain ⟨o2, ho2, hall2⟩ := h3
    rw [hi] at ho2
    injection ho2 with ho2
    subst ho2
    have h4 := hall2 e he hb
    rw [heq] at h4
    rw [show listed.getD i false = listed.getD i false from rfl] at h4
    rw [hT] at h4
    cases h4
   have h2 := wpOp_putIf hoj (hfree j oj hoj hji hjun hnot) (fun cs b => hsel i oi cs b hi) (fun cs b => hsel j oj cs b hoj) hQ hy h1
   have hfree' : ∀ k ok, ops[k]? = some ok → k ≠ i → (listed.setIfInBounds j true).getD k true = false →
     (∀ e ∈ ok.after, Region.binds md e = true → e.on ≠ i) → oi.apart ops ok = true := fun k ok hk hki hun hno => by
    refine hfree k ok hk hki ?_ hno
    by_cases hjk : j = k
    ·subst hjk; exact hjun
    ·rw [getD_set_ne true hjk] at hun; exact hun
   have hT2 := set_false hT hjt
   refine wpOp_mono (fun a' w' h3 => ?_) h2
   have hS3 : S w' := by
    rcases h3.2.1 with h4 | h4
    ·exfalso
     rw [Array.setIfInBounds_comm _ _ (Ne.symm hji)] at h4
     rw [set_false hT2 hit] at h4
     cases h4
    ·exact h4
   refine ⟨.inr hS3, ih (listed.setIfInBounds j true) a' w' hfree' (ready_mono hr (Ne.symm hji)) h3.1 hT2 hS3 ?_⟩
   rw [Array.setIfInBounds_comm _ _ hji]
   exact h3.2.2
def waitsFor (md : Region.Mode) (ops : Array Oper) (t i : Nat) : Bool := match ops[t]? with
 | some o => o.after.any fun e => Region.binds md e && e.on == i
 | none => true
theorem anyT_take {i : Nat} {oi : Oper} {v : Value} {fuel : Nat} {listed : Array Bool} {a : Act} {w : World} (hi : ops[i]? = some oi)
  (hs : Region.noSelect ops = true) (hf : Region.free md ops listed i = true) (hr : (Region.ready md ops listed).contains i = true) (hwt : waitsFor md ops t i = true) (hT : listed.getD t false = false)
  (hQ : ∀ c a w, Q (.panic c) (a.put oi.dst v) w → Q (.panic c) a w) (hy : YieldsIf P ops S oi v a) (hS : S w)
  (h : anyT P md ops Q S t fuel (listed.setIfInBounds i true) (a.put oi.dst v) w) : anyT P md ops Q S t (fuel + 1) listed a w :=
 anyT_first hi (Region.noSelect_spec hs) hQ (fun o ho => by
  unfold waitsFor at hwt
  rw [ho] at hwt
  dsimp only at hwt
  obtain ⟨j, hj, he⟩ := Array.any_eq_true.1 hwt
  rw [Bool.and_eq_true, beq_iff_eq] at he
  exact ⟨_, Array.getElem_mem hj, he.1, he.2⟩) fuel listed a w (Region.free_spec hi hf) (by simpa using hr) hy hT hS h
def AllReadyT (P : Program) (md : Region.Mode) (ops : Array Oper) (Q : Exit → Act → World → Prop) (S : World → Prop) (t : Nat) (fuel : Nat) (listed : Array Bool) (a : Act) (w : World) (rs : List Nat) : Prop :=
 ∀ i ∈ rs, wpOp P ops Q i (fun a' w' => ((listed.setIfInBounds i true).getD t false = true ∨ S w') ∧ anyT P md ops Q S t fuel (listed.setIfInBounds i true) a' w') a w
theorem AllReadyT.nil {fuel : Nat} {listed : Array Bool} {a : Act} {w : World} : AllReadyT P md ops Q S t fuel listed a w [] := fun _ h => by cases h
theorem AllReadyT.cons {fuel : Nat} {listed : Array Bool} {a : Act} {w : World} {i : Nat} {o : Oper} {rs : List Nat} (ho : ops[i]? = some o)
  (h : ∀ K' : Act → World → Prop, Shut (∀ a w, ((listed.setIfInBounds i true).getD t false = true ∨ S w) → (((listed.setIfInBounds i true).getD t false = true ∨ S w) → anyT P md ops Q S t fuel (listed.setIfInBounds i true) a w) → K' a w) → if Region.wanted o (yielded ops a.tmps) = true then Oper.wp P o a w K' Q else K' (a.put o.dst undef) w)
  (hs : AllReadyT P md ops Q S t fuel listed a w rs) : AllReadyT P md ops Q S t fuel listed a w (i :: rs) := fun j hj => by
 rcases List.mem_cons.1 hj with rfl | hj
 ·exact wpOp_step ho (fun K' hK => h K' (fun a w hS hW => hK a w ⟨hS, hW hS⟩))
 ·exact hs j hj
theorem anyT_ready {rs : List Nat} {fuel : Nat} {listed : Array Bool} {a : Act} {w : World} (hr : Region.ready md ops listed = rs) (hne : rs ≠ [])
  (h : AllReadyT P md ops Q S t fuel listed a w rs) : anyT P md ops Q S t (fuel + 1) listed a w :=
 ⟨fun h0 => absurd (hr ▸ h0) hne, hr ▸ h⟩
theorem anyT_done {listed : Array Bool} {a : Act} {w : World} (hr : Region.ready md ops listed = []) (h : Q .normal a w) :
  ∀ fuel, anyT P md ops Q S t fuel listed a w
 | 0 => ⟨hr, h⟩
 | _ + 1 => ⟨fun _ => h, by rw [hr]; simp⟩
theorem region_T {id : Nat} {a : Act} {w : World} (t : Nat) (hm : P.follows .mixedOrders = true) (hS : S w.drew)
  (h : S w.drew → anyT P .any ops Q S t ops.size (Array.replicate ops.size false) a w.drew) : (Code.region id ops true).wp P Q a w :=
 wp_region_any hm (any_of_T _ _ _ _ (h hS))
end
end Go.Proofs.YtbnafbdhomdcoaaGreatDoor
namespace Go.Proofs.YtbnafbdhomdcoaaGreatDoor.T5
open Go.RowKit Go.Shelf Go.Lib
theorem box6 {w w1 : World} {cs : Array Value} {t : TypeId} (h : Below (w.heap.size + 1) (w.alloc (.cells cs t)) w1) (k : Nat) : w1.cell? ⟨w.heap.size, k, none⟩ = cs[k]? ∧ w1.frozen? ⟨w.heap.size, k, none⟩ = false := by
 refine ⟨?_, ?_⟩
 ·rw [h.cell (p := ⟨w.heap.size, k, none⟩) (by simp), World.cell?_alloc_new]
 ·rw [h.frozen (p := ⟨w.heap.size, k, none⟩) (by simp)]; simp
theorem box_size {w w1 : World} {o : Obj} (h : Below (w.heap.size + 1) (w.alloc o) w1) : w.heap.size < w1.heap.size := by have := h.size; simp at this; omega
theorem below_box {w w1 : World} {o : Obj} (h : Below (w.heap.size + 1) (w.alloc o) w1) : Below w.heap.size w w1 :=
 ((Below.refl w.heap.size w).alloc (Nat.le_refl _) o).trans (h.mono (by omega))
theorem conn_list : connT.toList = [67, 79, 78, 78, 69, 67, 84] := by decide +kernel
theorem originR {m s : ByteArray} (h0 : ¬ s.size = 0) (hm : m ≠ connT) (h47 : bt s 0 = 47) : parseT m s = behindR (Tg.with_ 1 ⟨#[]⟩ (-1)) s 0 := by
 unfold parseT
 rw [if_neg h0, if_neg hm, if_pos h47]
 rfl
set_option maxRecDepth 100000 in
set_option maxHeartbeats 4000000 in
theorem Parse_origin (m s : ByteArray) (w : World) (hs : s.size ≤ 1099511627776) (h0 : ¬ s.size = 0) (hm : m ≠ connT) (h47 : bt s 0 = 47) :
  Calls Tryz.prog 99 #[.string m, .string s] w fun e w' => e = .returned (tgVal (parseT m s)) ∧ Below w.heap.size w w' := by
 have he : s.toList.isEmpty = false := by rw [empty_eq]; exact decide_eq_false h0
 have hmm : (m.toList == [67, 79, 78, 78, 69, 67, 84]) = false := by rw [← conn_list]; exact (eq_str m connT).trans (decide_eq_false hm)
 have hb := @bt_eq s 0 (by omega)
 have h4 : (bt s 0 == 47) = true := by rw [h47]; rfl
 have hB := Lib.hid (fun w => behind_any 1 ⟨#[]⟩ (-1) s 0 w hs (by omega))
 rw [originR h0 hm h47]
 rw [show (Tg.with_ 1 ⟨#[]⟩ (-1)).val = .agg #[.int .i64 1, .string ⟨#[]⟩, .int .i64 (-1), .string ⟨#[]⟩, .string ⟨#[]⟩, .bool false] from rfl] at hB
 generalize behindR (Tg.with_ 1 ⟨#[]⟩ (-1)) s 0 = r at *
 obtain ⟨⟨f, h, p, pa, qu, hq⟩, i, er⟩ := r
 unfold tgVal Tg.val at hB
 dsimp only at hB
 rw [show ((0 : Nat) : Int) = 0 from rfl] at hB
 have hpos : 0 < s.size := by omega
 clear hm h47
 go_enter Tryz.func99, Tryz.ntmps99
 go_wp2_with fail
 refine (hB.out _).mono ?_
 rintro e w1 ⟨rfl, b1⟩
 have b1' : Below (w.heap.size + 1) (w.alloc (.cells #[.int .i64 0, .string ⟨#[]⟩, .int .i64 0, .string ⟨#[]⟩, .string ⟨#[]⟩, .bool false] 114)) w1 := by simpa using b1
 obtain ⟨c0, f0⟩ := box6 b1' 0
 obtain ⟨c1, f1⟩ := box6 b1' 1
 obtain ⟨c2, f2⟩ := box6 b1' 2
 obtain ⟨c3, f3⟩ := box6 b1' 3
 obtain ⟨c4, f4⟩ := box6 b1' 4
 obtain ⟨c5, f5⟩ := box6 b1' 5
 have hsz := box_size b1'
 have hbw := below_box b1'
 clear b1 b1'
 go_wp2
 exact bodyPost_ret (v := tgVal (⟨f, h, p, pa, qu, hq⟩, i, er)) (by simp [results, Tryz.results99, go_sem, tgVal, Tg.val, c0, c1, c2, c3, c4, c5]) rfl ⟨rfl, by (repeat (first | (with_reducible refine Below.setCell ?_ (by simp) _))); exact hbw⟩
end Go.Proofs.YtbnafbdhomdcoaaGreatDoor.T5
