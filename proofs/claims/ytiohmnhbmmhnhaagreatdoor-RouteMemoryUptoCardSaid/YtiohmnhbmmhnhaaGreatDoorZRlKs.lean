/-
 RlKs, without what this claim does not reach.
-/
import Derived.Test.YtiohmnhbmmhnhaaGreatDoorZRlJ
import Derived.Lib.AppendZeros
import Derived.Test.YtiohmnhbmmhnhaaGreatDoorZRlF
import Derived.Test.YtiohmnhbmmhnhaaGreatDoorZRxV
namespace Go.Proofs.YtiohmnhbmmhnhaaGreatDoor
open Go.RowKit Go.Shelf Go.Lib
theorem run_append_rowN {P : Program} (w : World) (T ty e : TypeId) (i : TypeInfo) (sz : Nat) (hT : P.underlying T = some (.slice e)) (hi : P.info? e = some i) (hsz : i.size = sz) (g : Nat) (cur : Array Value) (t : TypeId) (hg : w.heap[g]? = some (.cells cur t (0, 0)))
  (n m c cA : Nat) (hroom : n + m ≤ c) (a : Addr) (news : List Value) (hl : news.length = m * sz) (hsrc : ∀ j u, news[j]? = some u → w.cell? (a.add j) = some u) (h1 : ∀ u ∈ news, u.oneCell' = true) (hfit : n * sz + news.length ≤ cur.size) :
  (Builtin.append_ #[T, T] ty #[.slice (some ⟨g, 0, none⟩) n c, .slice (some a) m cA]).run P w = .ok (.slice (some ⟨g, 0, none⟩) (n + m) c) (w.setRow g (cur.toList.take (n * sz) ++ news ++ cur.toList.drop (n * sz + news.length)).toArray) := by
 subst hsz
 have hfc := run_firstCells_some (P := P) w i.size m a m cA news hl hsrc
 have hst := run_storeCells_at P g (n * i.size) t news 0 cur w hg (by simpa using hfit) h1
 simp only [Nat.add_zero] at hst
 simp [Builtin.append_, run_underlying hT, sizeOf, typeInfo, hi, Builtin.lenOf, hroom, hfc, Addr.add_lit, hst]
theorem run_clear_rowN {P : Program} (w : World) (T ty e : TypeId) (z : Value) (hT : P.underlying T = some (.slice e)) (hv : ∀ w, (zeroValue e).run P w = .ok z w) (g o n c : Nat) (cur : Array Value) (t : TypeId) (hg : w.heap[g]? = some (.cells cur t (0, 0))) (zs : List Value)
  (hz : (Builtin.zeroCells z.cells n).toList = zs) (hn : 0 < n) (hfit : o + zs.length ≤ cur.size) (h1 : ∀ u ∈ zs, u.oneCell' = true) :
  (Builtin.clear_ #[T] ty #[.slice (some ⟨g, o, none⟩) n c]).run P w = .ok (.tuple #[]) (w.setRow g (cur.toList.take o ++ zs ++ cur.toList.drop (o + zs.length)).toArray) := by
 have hst := run_storeCells_at P g o t zs 0 cur w hg (by simpa using hfit) h1
 simp only [Nat.add_zero] at hst
 obtain ⟨m, rfl⟩ : ∃ m, n = m + 1 := ⟨n - 1, by omega⟩
 simp [Builtin.clear_, run_underlying hT, hv, hz, hst]
theorem step_append_runJ {P : Program} {ops : Array Oper} {o : Oper} {a : Act} {w : World} {K : Act → World → Prop} {Q : Exit → Act → World → Prop} {E : Prop}
  (hg : o.guard = none) (d x : Operand) (dT sT : TypeId) (hop : o.op = Op.call { callee := Callee.builtin Builtin.append, args := #[d, x], argTypes := #[dT, sT] })
  (v u : Value) (hd : a.eval d = v) (hx : a.eval x = u) {v' : Value} {w' : World} (hr : (Builtin.append_ #[dT, sT] o.type #[v, u]).run P w = .ok v' w') (hK : K (a.put o.dst v') w') :
  if Region.wanted o (yielded ops a.tmps) = true then Oper.wp P o a w K Q else E := by
 have hw : Region.wanted o (yielded ops a.tmps) = true := by simp [Region.wanted, hg]
 rw [if_pos hw]
 unfold Oper.wp
 simp [execOp, hop, resolve, invoke, builtin, hd, hx, hr, Result.andThen]
 exact hK
theorem drew_row {w : World} {g : Nat} {o : Obj} (h : w.heap[g]? = some o) : w.drew.heap[g]? = some o := h
def GivesDel (base : Nat) (w : World) (es : List En) (i : Nat) (e : Ending) (w' : World) : Prop :=
 ∃ v', e = .returned v' ∧ w'.ownsRow base 150 3 v' (es.eraseIdx i).length (flatE (es.eraseIdx i)) ∧ Below base w w'
set_option maxRecDepth 20000 in
set_option maxHeartbeats 4000000 in
theorem DeleteE_any (v : Value) (es : List En) (i n base : Nat) (w : World) (hn : es.length = n) (hown : w.ownsRow base 150 3 v n (flatE es)) (hi : i < n) (hl : n ≤ 4194304) :
  Calls Tryz.prog 79 #[v, .int .i64 (i : Nat), .int .i64 ((i : Int) + 1)] w (GivesDel base w es i) := by
 obtain ⟨i0, hi0, hz0, hz1, hz2⟩ := info_parts info_entry
 rcases hown.2 with ⟨_, h0⟩ | ⟨g, c, cur, rfl, hbg, hg, hnc, hcm, hcur, hck⟩
 ·omega
 obtain ⟨m, hm⟩ : ∃ m, m + 1 = n := ⟨n - 1, by omega⟩
 have hDl : (flatE (es.drop (i + 1))).length = (n - (i + 1)) * 3 := by rw [flatE_length, List.length_drop, hn]
 have hcsl : cur.toList.length = c * 3 := by rw [Array.length_toList, hcur]
 obtain ⟨C1, hC1⟩ : ∃ C1 : List Value, C1 = cur.toList.take (i * 3) ++ flatE (es.drop (i + 1)) ++ cur.toList.drop (i * 3 + (flatE (es.drop (i + 1))).length) := ⟨_, rfl⟩
 obtain ⟨zs, hzs⟩ : ∃ zs : List Value, zs = [.string ⟨#[]⟩, .slice none 0 0, .slice none 0 0] := ⟨_, rfl⟩
 obtain ⟨C2, hC2⟩ : ∃ C2 : List Value, C2 = C1.take (m * 3) ++ zs ++ C1.drop (m * 3 + zs.length) := ⟨_, rfl⟩
 have hC1l : C1.length = c * 3 := by
  rw [hC1]
  simp only [List.length_append, List.length_take, List.length_drop, hDl, hcsl]
  omega
 have hzl : zs.length = 3 := by rw [hzs]; rfl
 have hC2l : C2.length = c * 3 := by
  rw [hC2]
  simp only [List.length_append, List.length_take, List.length_drop, hC1l, hzl]
  omega
 have hel : (es.eraseIdx i).length = m := by rw [List.length_eraseIdx, if_pos (by omega)]; omega
 have hfin : C2.take (m * 3) = flatE (es.eraseIdx i) := by
  have e1 : (C1.take (m * 3)).length = m * 3 := by rw [List.length_take, hC1l]; omega
  have e2 : (cur.toList.take (i * 3)).length = i * 3 := by rw [List.length_take, hcsl]; omega
  have e3 : cur.toList.take (i * 3) = flatE (es.take i) := by
   rw [← flatE_take, ← hck, List.take_take, Nat.min_eq_left (by omega)]
  have e4 : (cur.toList.take (i * 3) ++ flatE (es.drop (i + 1))).length = m * 3 := by rw [List.length_append, e2, hDl]; omega
  rw [hC2, List.append_assoc, List.take_append_of_le_length (by omega), List.take_take, Nat.min_self, hC1, ← e4, List.take_left, e3, List.eraseIdx_eq_take_drop_succ, flatE_append]
 have hsrc : ∀ j u, (flatE (es.drop (i + 1)))[j]? = some u → w.cell? ⟨g, (i + 1) * 3 + j, none⟩ = some u := fun j u hu => by
  have h1 : (flatE es)[(i + 1) * 3 + j]? = some u := by rw [← flatE_drop, List.getElem?_drop] at hu; exact hu
  rw [← hck, List.getElem?_take] at h1
  split at h1
  ·simp [World.cell?, hg]; simpa using h1
  ·cases h1
 have hap : ∀ (ty cA : Nat) (a : Addr), (c = i + 1 → a = ⟨g, 0, none⟩) → (¬ c = i + 1 → a = ⟨g, (i + 1) * 3, none⟩) → (Builtin.append_ #[140, 140] ty #[.slice (some ⟨g, 0, none⟩) i c, .slice (some a) (n - (i + 1)) cA]).run Tryz.prog w.drew = .ok (.slice (some ⟨g, 0, none⟩) m c) (w.drew.setRow g C1.toArray) := fun ty cA a ha1 ha2 => by
  have h := run_append_rowN (P := Tryz.prog) w.drew 140 ty 150 i0 3 Tryz.underlying140 hi0 hz1 g cur 150 (drew_row hg) i (n - (i + 1)) c cA (by omega) a (flatE (es.drop (i + 1))) hDl (fun j u hj => by
   by_cases hce : c = i + 1
   ·have hj2 := (List.getElem?_eq_some_iff.1 hj).1
    rw [hDl] at hj2
    omega
   ·rw [ha2 hce, Addr.add_lit]
    exact hsrc j u hj) (flatE_oneCell _) (by rw [hDl, hcur]; omega)
  rw [h, ← hC1, show i + (n - (i + 1)) = m by omega]
 obtain ⟨W1, hW1⟩ : ∃ W1, W1 = w.drew.setRow g C1.toArray := ⟨_, rfl⟩
 have hg1 : W1.heap[g]? = some (.cells C1.toArray 150 (0, 0)) := by rw [hW1]; exact setRow_heap w.drew g cur _ _ _ hg
 have hcl : ∀ ty cc, (Builtin.clear_ #[140] ty #[.slice (some ⟨g, m * 3, none⟩) (n - m) cc]).run Tryz.prog W1 = .ok (.tuple #[]) (W1.setRow g C2.toArray) := fun ty cc => by
  have h := run_clear_rowN (P := Tryz.prog) W1 140 ty 150 (.agg #[.string ⟨#[]⟩, .slice none 0 0, .slice none 0 0]) Tryz.underlying140 Tryz.zeroValue150 g (m * 3) (n - m) cc C1.toArray 150 hg1 zs (by rw [show n - m = 1 by omega, hzs]; kernel_rfl) (by omega) (by rw [hzl, List.size_toArray, hC1l]; omega) (by rw [hzs]; intro u hu; simp at hu; rcases hu with rfl | rfl | rfl <;> rfl)
  rw [h, hC2]
 rw [← hW1] at hap
 have hown2 : (W1.setRow g C2.toArray).ownsRow base 150 3 (.slice (some ⟨g, 0, none⟩) m c) m (flatE (es.eraseIdx i)) := by
  refine ⟨by rw [flatE_length, hel], .inr ⟨g, c, C2.toArray, rfl, hbg, setRow_heap W1 g _ _ _ _ hg1, by omega, hcm, by rw [List.size_toArray, hC2l], hfin⟩⟩
 have hbel : Below base w (W1.setRow g C2.toArray) := by
  refine below_setRow ?_ hbg _
  rw [hW1]
  exact below_setRow (below_drew (Below.refl _ _)) hbg _
 have HOWN := Lib.hid hown2
 have HBEL := Lib.hid hbel
 have HAP := Lib.hid hap
 have HCL := Lib.hid hcl
 have HEL := Lib.hid hel
 have hw1 : IntKind.i64.wrap ((i : Int) + 1) = (i : Int) + 1 := by rw [IntKind.wrap_i64]; omega
 have hb1 : (0 : Int) ≤ (i : Int) + 1 := by omega
 have htn : ((i : Int) + 1).toNat = i + 1 := by omega
 have hb3 : (i : Int) + 1 ≤ (n : Int) := by omega
 have hb4 : ¬ (c = i) := by omega
 have hcm2 : c ≤ 9223372036854775807 := by unfold maxLen at hcm; omega
 have hb5 : (i : Int) ≤ (i : Int) + 1 := by omega
 have hb6 : ((i : Int) == (i : Int) + 1) = false := by simp; omega
 have hb7 : (n : Int) ≤ (c : Int) := by omega
 have hb8 : (i : Int) ≤ (c : Int) := by omega
 have hb9 : (m : Int) ≤ (n : Int) := by omega
 have hb10 : ¬ (c = m) := by omega
 clear hC1 hC2 hC1l hC2l hsrc hDl hcsl hown hown2 hbel hg1 hW1 hck hcur hg hap hcl hel hzl hzs hfin hm hn
 by_cases hce : c = i + 1
 ·go_enter Tryz.func79, Tryz.ntmps79
  go_wp2_with fail
  go_region_law (refine step_append_runJ rfl _ _ 140 140 rfl (.slice (some ⟨g, 0, none⟩) i c) (.slice (some ⟨g, 0, none⟩) (n - (i + 1)) (c - (i + 1))) (by simp [Act.eval, Act.put]; omega) (by simp [Act.eval, Act.put]; omega) (HAP.out _ _ _ (fun _ => rfl) (fun h => absurd hce h)) ?_)
  have h2 := HCL.out
  go_wp2
  go_ret
  exact ⟨_, rfl, by rw [HEL.out]; have h := HOWN.out; rw [hce] at h; exact h, HBEL.out⟩
 ·go_enter Tryz.func79, Tryz.ntmps79
  go_wp2_with fail
  go_region_law (refine step_append_runJ rfl _ _ 140 140 rfl (.slice (some ⟨g, 0, none⟩) i c) (.slice (some ⟨g, (i + 1) * 3, none⟩) (n - (i + 1)) (c - (i + 1))) (by simp [Act.eval, Act.put]) (by simp [Act.eval, Act.put]) (HAP.out _ _ _ (fun h => absurd h hce) (fun _ => rfl)) ?_)
  have h2 := HCL.out
  go_wp2
  go_ret
  exact ⟨_, rfl, by rw [HEL.out]; exact HOWN.out, HBEL.out⟩
def findP (es : List En) (s : ByteArray) : Option Nat := es.findIdx? fun x => decide (x.1 = s)
def idxV : Option Nat → Int
 | some i => (i : Int)
 | none => -1
theorem findP_some {es : List En} {s : ByteArray} {i : Nat} (h : findP es s = some i) : ∃ x, es[i]? = some x ∧ x.1 = s ∧ i < es.length := by
 obtain ⟨hl, h1, _⟩ := List.findIdx?_eq_some_iff_getElem.1 h
 exact ⟨_, List.getElem?_eq_getElem hl, of_decide_eq_true h1, hl⟩
set_option maxRecDepth 20000 in
set_option maxHeartbeats 1000000 in
theorem place1_any (s : ByteArray) (x : En) (nb : Nat) (w : World) (hc : w.cell? ⟨nb, 0, none⟩ = some (.string s)) (hlt : nb < w.heap.size) :
  Calls Tryz.prog 114 #[.agg (enV x).toArray, .pointer (some ⟨nb, 0, none⟩)] w fun e w' => e = .returned (.bool (decide (x.1 = s))) ∧ Below w.heap.size w w' := by
 obtain ⟨p, ⟨A, c⟩, l, v⟩ := x
 show Calls _ _ #[.agg #[.string p, .slice A l.length c, .slice v.1 v.2.1 v.2.2], .pointer (some ⟨nb, 0, none⟩)] _ _
 dsimp only
 go_enter Tryz.func114, Tryz.ntmps114
 go_wp2
 go_ret
 exact ⟨ret_bool (eq_str p s), below_new (Below.refl _ _)⟩
set_option maxRecDepth 20000 in
set_option maxHeartbeats 1000000 in
theorem IndexE_any (A : Option Addr) (c : Nat) (es : List En) (s : ByteArray) (nb : Nat) (w : World) (hr : Row w A (flatE es)) (hl : es.length ≤ 4194304) (hc : w.cell? ⟨nb, 0, none⟩ = some (.string s)) (hlt : nb < w.heap.size) :
  Calls Tryz.prog 113 #[.slice A es.length c, .func (.func 114) #[] #[.pointer (some ⟨nb, 0, none⟩)]] w fun e w' => e = .returned (.int .i64 (idxV (findP es s))) ∧ Below w.heap.size w w' := by
 have hcf : ∀ args w, (callFunc 114 args).run Tryz.prog w = .ok (.enter 114 args) w := fun args w => Tryz.call114 args w
 have HF := Lib.hid (fun (W : World) (h : Below w.heap.size w W) (x : En) => place1_any s x nb W ((h.cell (p := ⟨nb, 0, none⟩) hlt).trans hc) (Nat.lt_of_lt_of_le hlt h.size))
 have HR := Lib.hid hr
 clear hc hlt hr
 generalize Value.pointer (some ⟨nb, 0, none⟩) = cap at *
 go_enter Tryz.func113, Tryz.ntmps113
 go_wp2
 go_loopw [8] (fun i wr => ∃ k : Nat, k ≤ es.length ∧ i = .int .i64 k ∧ Hid (∀ j x, j < k → es[j]? = some x → x.1 ≠ s) ∧ Below w.heap.size w wr) (fun i _ => es.length - (RowKit.intOf i).toNat)
 case atStart => exact ⟨0, by omega, rfl, Lib.hid (fun j x h => absurd h (Nat.not_lt_zero _)), Below.refl _ _⟩
 case round =>
  obtain ⟨k, hk, rfl, HK, hbw⟩ := hrel
  by_cases hlt : k < es.length
  ·obtain ⟨x, hx⟩ := some_of_lt hlt
   obtain ⟨b, off, rfl, hb, f0, f1, f2⟩ := Row.en (HR.out.below hbw) hx
   have HC := Lib.hid (HF.out wr hbw x)
   have HX := Lib.hid hx
   clear hx
   obtain ⟨p, ⟨XA, xc⟩, xl, xv⟩ := x
   dsimp only at f0 f1 f2 HC
   by_cases hp : p = s
   ·have HV := Lib.hid (show findP es s = some k from List.findIdx?_eq_some_iff_getElem.2 ⟨hlt, by have := (List.getElem?_eq_some_iff.1 HX.out).2; rw [this]; exact decide_eq_true hp, fun j hj => by
     have := HK.out j es[j] hj (List.getElem?_eq_getElem (by omega))
     rw [decide_eq_false this]
     simp⟩)
    rw [decide_eq_true hp] at HC
    clear hp HK
    go_wp2_with fail
    refine HC.out.mono ?_
    rintro e w1 ⟨rfl, hb1⟩
    have hbw1 := hbw.trans (hb1.mono hbw.size)
    clear hb1 f0 f1 f2 HC
    go_wp2
    go_ret
    exact ⟨ret_int (by rw [HV.out]; rfl), hbw1⟩
   ·have HK2 : Hid (∀ j x, j < k + 1 → es[j]? = some x → x.1 ≠ s) := Lib.hid (fun j y hj hy => by
     rcases Nat.lt_or_ge j k with h | h
     ·exact HK.out j y h hy
     ·obtain rfl : j = k := by omega
      have := HX.out.symm.trans hy
      obtain rfl := Option.some.inj this
      exact hp)
    rw [decide_eq_false hp] at HC
    clear hp HK
    go_wp2_with fail
    refine HC.out.mono ?_
    rintro e w1 ⟨rfl, hb1⟩
    have hbw1 := hbw.trans (hb1.mono hbw.size)
    clear hb1 f0 f1 f2 HC
    go_wp2
    go_roundw
    case rel => exact ⟨k + 1, by omega, by go_num, HK2, hbw1⟩
    case measure => simp [RowKit.intOf]; omega
  ·obtain rfl : k = es.length := by omega
   have HV := Lib.hid (show findP es s = none from List.findIdx?_eq_none_iff.2 fun x hx => by
    obtain ⟨j, hj, rfl⟩ := List.getElem_of_mem hx
    exact decide_eq_false (HK.out j _ hj (List.getElem?_eq_getElem hj)))
   go_wp2
   go_ret
   exact ⟨ret_int (by rw [HV.out]; rfl), hbw⟩
set_option maxRecDepth 20000 in
set_option maxHeartbeats 1000000 in
theorem place_any (S : Nat → Prop) (w : World) (q : Nat) (es : List En) (s : ByteArray) (hT : TreeAt S w q es) (hel : es.length ≤ 4194304) :
  Calls Tryz.prog 77 #[.pointer (some ⟨q, 0, none⟩), .string s] w fun e w' => e = .returned (.int .i64 (idxV (findP es s))) ∧ Below w.heap.size w w' := by
 have hmf : ∀ (fn : Fn) (first cap : Array Value) (w : World), (Instr.makeFunc fn first cap).run Tryz.prog w = .ok (.func fn first cap) w := fun _ _ _ _ => rfl
 obtain ⟨A, c, rp, T, hSq, hql, q0, q1, hf0, hf1, hA, hrow, heo, hTT, hat⟩ := hT
 have hb0 := (Below.refl w.heap.size w).alloc (Nat.le_refl _) (.cells #[.string s] 9)
 have HI := Lib.hid (IndexE_any A c es s w.heap.size (w.alloc (.cells #[.string s] 9)) (hrow.row.below hb0) hel (by simp) (by simp))
 clear hrow heo hTT hat hA q1 hf0 hf1
 go_enter Tryz.func77, Tryz.ntmps77
 go_wp2_with fail
 refine HI.out.mono ?_
 rintro e w1 ⟨rfl, hb1⟩
 have hb2 : Below w.heap.size w w1 := below_new (by simpa using hb1)
 go_wp2
 go_ret
 exact ⟨rfl, hb2⟩
def getV (es : List En) (s : ByteArray) : (Option Addr × Nat × Nat) × Bool := match findP es s with
 | some i => match es[i]? with
  | some x => (x.2.2.2, true)
  | none => ((none, 0, 0), false)
 | none => ((none, 0, 0), false)
theorem getV_some {es : List En} {s : ByteArray} {i : Nat} {x : En} (h : findP es s = some i) (hx : es[i]? = some x) : getV es s = (x.2.2.2, true) := by
 unfold getV
 rw [h]
 dsimp only
 rw [hx]
theorem getV_none {es : List En} {s : ByteArray} (h : findP es s = none) : getV es s = ((none, 0, 0), false) := by
 unfold getV
 rw [h]
set_option maxRecDepth 20000 in
set_option maxHeartbeats 1000000 in
theorem Get_any (S : Nat → Prop) (w : World) (q : Nat) (es : List En) (s : ByteArray) (hT : TreeAt S w q es) (hel : es.length ≤ 4194304) :
  Calls Tryz.prog 76 #[.pointer (some ⟨q, 0, none⟩), .string s] w fun e w' => e = .returned (.tuple #[.slice (getV es s).1.1 (getV es s).1.2.1 (getV es s).1.2.2, .bool (getV es s).2]) ∧ Below w.heap.size w w' := by
 have HP := Lib.hid (place_any S w q es s hT hel)
 obtain ⟨A, c, rp, T, hSq, hql, q0, q1, hf0, hf1, hA, hrow, heo, hTT, hat⟩ := hT
 have HR := Lib.hid hrow.row
 clear hrow heo hTT hat hA q1 hf0 hf1
 obtain ⟨o, ho⟩ : ∃ o, o = findP es s := ⟨_, rfl⟩
 rw [← ho] at HP
 have HO := Lib.hid ho
 clear ho
 cases o with
 | none =>
  rw [getV_none HO.out.symm]
  unfold idxV at HP
  dsimp only at HP ⊢
  go_enter Tryz.func76, Tryz.ntmps76
  go_wp2_with fail
  refine HP.out.mono ?_
  rintro e w1 ⟨rfl, hb⟩
  go_wp2
  go_ret2
  exact ⟨rfl, hb⟩
 | some i =>
  obtain ⟨x, hx, _, hi⟩ := findP_some HO.out.symm
  rw [getV_some HO.out.symm hx]
  unfold idxV at HP
  have HQ := Lib.hid (fun (W : World) (h : Below w.heap.size w W) => (h.cell (p := ⟨q, 0, none⟩) hql).trans q0)
  have HX := Lib.hid hx
  obtain ⟨p, ⟨XA, xc⟩, xl, xv⟩ := x
  dsimp only at HP ⊢
  have hi2 : (i : Int) < (es.length : Int) := by omega
  have hi3 : (0 : Int) ≤ (i : Int) := by omega
  clear hx q0
  go_enter Tryz.func76, Tryz.ntmps76
  go_wp2_with fail
  refine HP.out.mono ?_
  rintro e w1 ⟨rfl, hb⟩
  have q0 := HQ.out w1 hb
  obtain ⟨b, off, rfl, hbl, f0, f1, f2⟩ := Row.en (HR.out.below hb) HX.out
  dsimp only at f0 f1 f2
  go_wp2
  go_ret2
  exact ⟨rfl, hb⟩
theorem pcsE_erase (es : List En) (i : Nat) : pcsE (es.eraseIdx i) = (pcsE es).eraseIdx i := by
 unfold pcsE
 rw [List.eraseIdx_eq_take_drop_succ, List.eraseIdx_eq_take_drop_succ, List.map_append, List.map_take, List.map_drop]
theorem remE_sort {es : List En} (hg : GoodE es) (i : Nat) : GoodE (es.eraseIdx i) := by
 refine ⟨?_, fun x hx => hg.pcs x (List.mem_of_mem_eraseIdx hx)⟩
 rw [pcsE_erase]
 exact List.Pairwise.sublist (List.eraseIdx_sublist _ _) hg.sort
theorem loadP_sub {a b : List (List Pc)} (h : a.Sublist b) : loadP a ≤ loadP b := by
 induction h with
 | slnil => exact Nat.le_refl _
 | cons x _ ih => rw [loadP_cons]; omega
 | cons_cons x _ ih => rw [loadP_cons, loadP_cons]; omega
def GivesRem (S : Nat → Prop) (w : World) (q : Nat) (es : List En) (o : Option Nat) (e : Ending) (w' : World) : Prop :=
 (o = none ∧ e = .returned (.tuple #[.slice none 0 0, .bool false]) ∧ Below w.heap.size w w') ∨
 (∃ i x, o = some i ∧ es[i]? = some x ∧ e = .returned (.tuple #[.slice x.2.2.2.1 x.2.2.2.2.1 x.2.2.2.2.2, .bool true]) ∧ TreeAt (fun b => S b ∨ (w.heap.size ≤ b ∧ b < w'.heap.size)) w' q (es.eraseIdx i) ∧ Turn q w w')
set_option maxRecDepth 20000 in
set_option maxHeartbeats 8000000 in
theorem Remove_any (S : Nat → Prop) (w : World) (q : Nat) (es : List En) (s : ByteArray) (hT : TreeAt S w q es) (hg : GoodE es) (hld : 3 * loadP (pcsE es) ≤ 4194304) :
  Calls Tryz.prog 38 #[.pointer (some ⟨q, 0, none⟩), .string s] w (GivesRem S w q es (findP es s)) := by
 have hlen : es.length ≤ loadP (pcsE es) := by have := loadP_len (pcsE es); unfold pcsE at this ⊢; rwa [List.length_map] at this
 have hel : es.length ≤ 4194304 := by omega
 have HG := Lib.hid (Get_any S w q es s hT hel)
 have HP := Lib.hid (fun (W : World) (h : Below w.heap.size w W) => place_any S W q es s (hT.below h) hel)
 obtain ⟨o, ho⟩ : ∃ o, o = findP es s := ⟨_, rfl⟩
 rw [← ho] at HP ⊢
 have HO := Lib.hid ho
 clear ho
 cases o with
 | none =>
  rw [getV_none HO.out.symm] at HG
  dsimp only at HG
  clear hT hg
  go_enter Tryz.func38, Tryz.ntmps38
  go_wp2_with fail
  refine HG.out.mono ?_
  rintro e w1 ⟨rfl, hb⟩
  go_wp2
  go_ret2
  exact .inl ⟨rfl, rfl, hb⟩
 | some i =>
  obtain ⟨x, hx, _, hi⟩ := findP_some HO.out.symm
  rw [getV_some HO.out.symm hx] at HG
  unfold idxV at HP
  obtain ⟨A, c, rp, T, hSq, hql, q0, q1, hf0, hf1, hA, hrow, heo, hTT, hat⟩ := hT
  have HCL := Lib.hid (fun (W : World) (h : Below w.heap.size w W) => CloneE_any A c es W (hrow.row.below h) hel hA)
  have HQ := Lib.hid (fun (W : World) (h : Below w.heap.size w W) => (⟨(h.cell (p := ⟨q, 0, none⟩) hql).trans q0, (h.cell (p := ⟨q, 1, none⟩) hql).trans q1, (h.frozen (p := ⟨q, 0, none⟩) hql).trans hf0, (h.frozen (p := ⟨q, 1, none⟩) hql).trans hf1⟩ : W.cell? ⟨q, 0, none⟩ = some (.slice A es.length c) ∧ W.cell? ⟨q, 1, none⟩ = some (.pointer rp) ∧ W.frozen? ⟨q, 0, none⟩ = false ∧ W.frozen? ⟨q, 1, none⟩ = false))
  have HEO := Lib.hid heo
  have HGD := Lib.hid hg
  have hws : loadP (pcsE (es.eraseIdx i)) ≤ loadP (pcsE es) := by rw [pcsE_erase]; exact loadP_sub (List.eraseIdx_sublist _ _)
  have HLD := Lib.hid (show 3 * loadP (pcsE (es.eraseIdx i)) ≤ 4194304 by omega)
  have HX := Lib.hid hx
  generalize hxv : x.2.2.2 = xv at *
  have HXV := Lib.hid hxv
  dsimp only at HG HP
  have hw1 : IntKind.i64.wrap ((i : Int) + 1) = (i : Int) + 1 := by rw [IntKind.wrap_i64]; omega
  clear hx hxv hrow heo hTT hat hA q0 q1 hf0 hf1 hg hlen hws hld
  go_enter Tryz.func38, Tryz.ntmps38
  go_wp2_with fail
  refine HG.out.mono ?_
  rintro e w1 ⟨rfl, hb1⟩
  go_wp2_with fail
  refine (HP.out _ hb1).mono ?_
  rintro e w2 ⟨rfl, hb2⟩
  have hb3 := hb1.trans (hb2.mono hb1.size)
  obtain ⟨q0, q1, hf0, hf1⟩ := HQ.out w2 hb3
  clear hb1 hb2 HG HP
  go_wp2_with fail
  refine (HCL.out w2 hb3).mono ?_
  rintro e w3 ⟨v3, rfl, hown3, hb5⟩
  dsimp only
  have hb6 := hb3.trans (hb5.mono hb3.size)
  have HDL := Lib.hid (DeleteE_any v3 es i es.length w2.heap.size w3 rfl hown3 hi hel)
  clear q0 q1 hf0 hf1 hown3 HCL
  go_wp2_with fail
  refine HDL.out.mono ?_
  rintro e w4 ⟨v4, rfl, hown4, hb8⟩
  have hb9 : Below w2.heap.size w2 w4 := hb5.trans hb8
  have hb10 := hb3.trans (hb9.mono hb3.size)
  obtain ⟨A4, c4, rfl⟩ := own_slice hown4
  obtain ⟨q0, q1, hf0, hf1⟩ := HQ.out w4 hb10
  have hmem : ∀ y, y ∈ es.eraseIdx i → y ∈ es := fun y hy => List.mem_of_mem_eraseIdx hy
  have hP := plant_any q A4 c4 (es.eraseIdx i) w4 (Nat.lt_of_lt_of_le hql hb10.size) _ _ q0 q1 hf0 hf1 (own_row hown4) (fun y hy => ⟨(HEO.out y (hmem y hy)).row.below hb10, fun p hp => ((HGD.out.wf (hmem y hy)).1 p hp).1⟩) HLD.out
  have HPL := Lib.hid hP
  have HOW := Lib.hid hown4
  clear hP hown4 q0 q1 hf0 hf1 HDL hb5 hb6 hb8
  go_wp2_with fail
  refine HPL.out.mono ?_
  rintro e w5 (⟨hnd, rfl, w6, q', T4, rfl, hb11, hT4, hat⟩ | ⟨hdup, _⟩)
  ·dsimp only
   have hb12 := hb10.trans (hb11.mono hb10.size)
   have hq6 := Nat.lt_of_lt_of_le hql hb12.size
   obtain ⟨q0, q1, hf0, hf1⟩ := HQ.out w6 hb12
   obtain ⟨w7, hw7⟩ : ∃ w7, (w6.setCell ⟨q, 0, none⟩ (.slice A4 (es.eraseIdx i).length c4)).setCell ⟨q, 1, none⟩ (.pointer q') = w7 := ⟨_, rfl⟩
   rw [hw7]
   have HW7 := Lib.hid hw7
   have HAT := Lib.hid hat
   have HT4 := Lib.hid hT4
   have Q0 := Lib.hid q0
   have Q1 := Lib.hid q1
   clear hw7 hat hT4 hnd q0 q1 hb9
   go_wp2
   go_ret2
   have hs7 : w7.heap.size = w6.heap.size := by rw [← HW7.out]; simp
   have k6 : ∀ k, k ≠ q → w7.heap[k]? = w6.heap[k]? := fun k h2 => by
    rw [← HW7.out, Below.heap_setCell _ _ _ _ h2, Below.heap_setCell _ _ _ _ h2]
   have k4 : ∀ k, k < w4.heap.size → k ≠ q → w7.heap[k]? = w4.heap[k]? := fun k hk h2 => (k6 k h2).trans (hb11.block k hk)
   have k0 : ∀ k, k < w.heap.size → k ≠ q → w7.heap[k]? = w.heap[k]? := fun k hk h2 => (k4 k (Nat.lt_of_lt_of_le hk hb10.size) h2).trans (hb10.block k hk)
   have hsz4 := hb10.size
   have hsz6 := hb11.size
   have hsz3 := hb3.size
   have c0 : w7.cell? ⟨q, 0, none⟩ = some (.slice A4 (es.eraseIdx i).length c4) := by
    rw [← HW7.out, World.cell?_setCell_other _ _ _ _ (by intro e; injection e with _ e; cases e)]
    exact World.cell?_setCell_same _ _ _ Q0.out
   have c1 : w7.cell? ⟨q, 1, none⟩ = some (.pointer q') := by
    rw [← HW7.out]
    refine World.cell?_setCell_same _ _ _ (u := .pointer rp) ?_
    rw [World.cell?_setCell_other _ _ _ _ (by intro e; injection e with _ e; cases e)]
    exact Q1.out
   have f0 : w7.frozen? ⟨q, 0, none⟩ = false := by rw [← HW7.out, World.frozen?_setCell, World.frozen?_setCell]; exact hf0
   have f1 : w7.frozen? ⟨q, 1, none⟩ = false := by rw [← HW7.out, World.frozen?_setCell, World.frozen?_setCell]; exact hf1
   have hold4 : Hold (fun b => w.heap.size ≤ b) w4 w7 := ⟨by omega, fun k (hk : w.heap.size ≤ k) hk2 => k4 k hk2 (by omega)⟩
   have hold6 : Hold (fun b => w4.heap.size ≤ b) w6 w7 := ⟨by omega, fun k (hk : w4.heap.size ≤ k) hk2 => k6 k (by omega)⟩
   have hold0 : Hold S w w7 := ⟨by omega, fun k hk hk2 => k0 k hk2 (fun e => hSq (by rw [← e]; exact hk))⟩
   have hA4 : (A4 = none ∧ c4 = 0) ∨ ∃ b off, A4 = some ⟨b, off, none⟩ := by
    rcases HOW.out.2 with ⟨e, _⟩ | ⟨g, cap, cur, e, _⟩
    ·injection e with e1 _ e2
     exact .inl ⟨e1, e2⟩
    ·injection e with e1
     exact .inr ⟨g, 0, e1⟩
   have hr4 : RowF (fun b => w.heap.size ≤ b) w4 A4 (flatE (es.eraseIdx i)) := RowF.own HOW.out (fun b hb => by
    have h1 := own_lt HOW.out b hb
    show w.heap.size ≤ b
    omega)
   have hr9 := (hr4.hold hold4).mono (S' := fun b => S b ∨ (w.heap.size ≤ b ∧ b < w7.heap.size)) (fun b (hb : w.heap.size ≤ b) hb2 => .inr ⟨hb, hb2⟩)
   have hat9 := (At.mono (S' := fun b => S b ∨ (w.heap.size ≤ b ∧ b < w7.heap.size)) (fun b (hb : w4.heap.size ≤ b) hb2 => .inr ⟨by omega, hb2⟩) T4).1 _ ((At.hold hold6 T4).1 _ HAT.out)
   refine .inr ⟨i, x, rfl, HX.out, by rw [HXV.out]; rfl, ⟨A4, c4, q', T4, ?_, by omega, c0, c1, f0, f1, hA4, hr9, fun y hy => (EOne.hold (HEO.out y (hmem y hy)) hold0).mono fun b hb _ => .inl hb, HT4.out, hat9⟩, ?_⟩
   ·rintro (h | ⟨h, _⟩)
    ·exact hSq h
    ·omega
   ·exact ⟨by rw [← HW7.out]; exact hb12.os, by rw [← HW7.out]; exact hb12.tape, by rw [← HW7.out]; exact hb12.output, by omega, k0⟩
  ·exact absurd hdup (sort_nodup (remE_sort HGD.out i).sort)
def CountOk (T : Tr) : Prop := ∀ (S : Nat → Prop) (w : World) (v : Value), FullT T → (At S T).1 w v → cntT T ≤ 1073741824 →
  Calls Tryz.prog 107 #[v] w fun e w' => e = .returned (.int .i64 (cntT T : Nat)) ∧ Drawn w w'
theorem at_ptr {S : Nat → Prop} {w : World} {T : Tr} {v : Value} (h : (At S T).1 w v) : ∃ q : Option Addr, v = .pointer q := by
 cases T with
 | none => exact ⟨none, h⟩
 | kid _ _ _ => exact h.elim
 | node _ _ _ _ =>
  obtain ⟨b, _, _, _, _, _, _, _, _, e, _⟩ := h
  exact ⟨_, e⟩
theorem cnt_take {L : List (ByteArray × Tr)} {k : Nat} {x : ByteArray × Tr} (h : L[k]? = some x) : cntT (chain (L.take (k + 1))) = cntT (chain (L.take k)) + cntT x.2 := by
 rw [take_snoc h, cnt_chain, cnt_chain, List.map_append, List.sum_append]
 simp
theorem cnt_le (L : List (ByteArray × Tr)) (k : Nat) : cntT (chain (L.take k)) ≤ cntT (chain L) := by
 have h : cntT (chain L) = cntT (chain (L.take k)) + cntT (chain (L.drop k)) := by
  rw [cnt_chain, cnt_chain, cnt_chain, ← List.sum_append, ← List.map_append, List.take_append_drop]
 omega
theorem quiet_form {f : FuncId} {args : Array Value} {w : World} {v : Value} {n : Nat} (h : Calls Tryz.prog f args (w.drewN n) fun e w' => e = .returned v ∧ Drawn (w.drewN n) w') : Calls Tryz.prog f args (w.drewN n) fun e w' => e = .returned v ∧ ∃ m, w' = w.drewN m := Calls.quiet_of h
set_option maxRecDepth 20000 in
set_option maxHeartbeats 800000 in
theorem count_step (T : Tr) (IH : ∀ T', sizeT T' < sizeT T → CountOk T') : CountOk T := by
 intro S w v hf ha hs
 cases T with
 | kid _ _ _ => exact ha.elim
 | none =>
  obtain rfl : v = .pointer none := ha
  go_enter Tryz.func107, Tryz.ntmps107
  go_wp2
  go_ret
  exact ⟨rfl, Drawn.refl _⟩
 | node e K p r =>
 obtain ⟨b, TA, tc, KA, kc, ts, ps, pv, rv, rfl, hSb, hbl, c0, c1, c2, c3, c4, rT, rK, aK, aP, aR⟩ := ha
 obtain ⟨L, rfl, rfl, hKL⟩ := chain_of K ts ps aK
 obtain ⟨fL, fK, fP, fR⟩ := hf
 rw [chainLen_chain] at fL
 obtain ⟨qp, rfl⟩ := at_ptr aP
 obtain ⟨qr, rfl⟩ := at_ptr aR
 have hpl := KL.length L ps hKL
 rw [hpl] at c1
 have hfK := (full_chain L).1 fK
 have hcnt : cntT (Tr.node e (chain L) p r) = 1 + cntT p + cntT r + cntT (chain L) := rfl
 have HKL := Lib.hid hKL
 have HrK := Lib.hid rK
 have HfK := Lib.hid hfK
 have hszT : sizeT (Tr.node e (chain L) p r) = sizeT (chain L) + sizeT p + sizeT r + 1 := rfl
 have HCP := Lib.hid (fun (n : Nat) => quiet_form (IH p (by rw [hszT]; omega) S (w.drewN n) (.pointer qp) fP ((At.hold (Hold.drawn ⟨n, rfl⟩) p).1 _ aP) (by omega)))
 have HCR := Lib.hid (fun (n : Nat) => quiet_form (IH r (by rw [hszT]; omega) S (w.drewN n) (.pointer qr) fR ((At.hold (Hold.drawn ⟨n, rfl⟩) r).1 _ aR) (by omega)))
 have HIH := Lib.hid (fun (x : ByteArray × Tr) (hx : x ∈ L) => IH x.2 (by have := size_chain hx; rw [hszT]; omega))
 have hle := cnt_le L
 have HLE := Lib.hid hle
 rw [hcnt] at hs ⊢
 have HPL := Lib.hid hpl
 generalize cntT p = np at *
 generalize cntT r = nr at *
 have hs1 : IntKind.i64.wrap (1 + (np : Int)) = 1 + (np : Int) := by rw [IntKind.wrap_i64]; omega
 have hs2 : IntKind.i64.wrap (1 + (np : Int) + (nr : Int)) = 1 + (np : Int) + (nr : Int) := by rw [IntKind.wrap_i64]; omega
 clear hKL rK aK aP aR fK fP fR hfK IH hpl hszT hcnt hle rT c4
 go_enter Tryz.func107, Tryz.ntmps107
 go_wp2_with fail
 go_quiet (first | (go_at_call 107; with_reducible exact HCP.out _) | (go_at_call 107; with_reducible exact HCR.out _))
 clear hs1 hs2 HCP HCR c2 c3
 have HD0 : Hid (Drawn w (w.drewN nq)) := Lib.hid ⟨_, rfl⟩
 have hh0 := Hold.drawn (S := S) HD0.out
 have d1 := (hh0.cell ⟨b, 1, none⟩ hSb hbl).trans c1
 generalize w.drewN nq = w1 at *
 go_wp2
 go_loopw [3, 25] (fun sv i wr => ∃ k : Nat, k ≤ L.length ∧ i = .int .i64 k ∧ sv = .int .i64 (1 + (np : Int) + (nr : Int) + (cntT (chain (L.take k)) : Nat)) ∧ Hid (Drawn w wr)) (fun _ i _ => L.length - (RowKit.intOf i).toNat)
 case atStart => exact ⟨0, by omega, rfl, by rw [List.take_zero]; show _ = Value.int .i64 (_ + ((0 : Nat) : Int)); simp, HD0⟩
 case round =>
  obtain ⟨k, hk, rfl, rfl, HD⟩ := hrel
  have hh := Hold.drawn (S := S) HD.out
  have hlk := HLE.out k
  by_cases hlt : k < L.length
  ·obtain ⟨⟨tx, T'⟩, hx⟩ := some_of_lt hlt
   have hmem := List.mem_of_getElem? hx
   obtain ⟨q, hq, hAq⟩ := KL.at_ L ps k (tx, T') HKL.out hx
   have hAq2 := (At.hold hh T').1 _ hAq
   obtain ⟨qq, rfl⟩ := at_ptr hAq
   obtain ⟨bk, offk, rfl, hSk, hbk, hkk⟩ := (HrK.out.hold hh) (by have := HPL.out; omega)
   have hk0 := hkk k _ hq
   obtain ⟨hnT, hfT⟩ := HfK.out _ hmem
   have hct := cnt_take hx
   have hlk1 := HLE.out (k + 1)
   dsimp only at hnT hfT hct
   have HC := Lib.hid (HIH.out _ hmem S wr (.pointer qq) hfT hAq2 (show cntT T' ≤ 1073741824 by omega))
   dsimp only at HC
   have HCT := Lib.hid hct
   have hsum : cntT (chain (L.take k)) + cntT T' ≤ cntT (chain L) := by omega
   clear hx hmem hq hAq hAq2 hkk hnT hfT hct hlk1 hh hh0
   generalize cntT (chain (L.take k)) = nk at *
   generalize cntT T' = nT at *
   go_wp2_with fail
   refine HC.out.mono ?_
   rintro e' w2 ⟨rfl, hd⟩
   have HD2 : Hid (Drawn w w2) := Lib.hid (by
    obtain ⟨q1, h1⟩ := HD.out
    obtain ⟨q2, h2⟩ := hd
    exact ⟨q1 + q2, by rw [h2, h1]; simp⟩)
   clear hd HC
   go_wp2
   go_roundw
   case rel => exact ⟨k + 1, by omega, by go_num, by rw [HCT.out]; go_num, HD2⟩
   case measure => simp [RowKit.intOf]; omega
  ·obtain rfl : k = L.length := by omega
   have HV := Lib.hid (show L.take L.length = L from List.take_length)
   go_wp2
   go_ret
   exact ⟨ret_int (by rw [HV.out]; go_num), HD.out⟩
theorem count_any : ∀ (n : Nat) (T : Tr), sizeT T < n → CountOk T
 | 0, _, h => absurd h (Nat.not_lt_zero _)
 | n + 1, T, h => count_step T fun T' h' => count_any n T' (by omega)
def nodesE (es : List En) : Nat := cntT (treeP (pcsE es))
theorem edgN_len (l : List Pc) : edgN l ≤ l.length := List.countP_le_length
theorem edgL_load (ls : List (List Pc)) : ls.length + edgL ls ≤ loadP ls := by
 induction ls with
 | nil => exact Nat.le_refl _
 | cons l ls ih =>
  have h1 := edgN_len l
  have h2 := totP_len l
  have e : edgL (l :: ls) = edgN l + edgL ls := by simp [edgL]
  rw [e, loadP_cons, List.length_cons]
  omega
theorem nodes_bound {es : List En} (hg : GoodE es) : nodesE es ≤ 2 * (pcsE es).length + 2 * edgL (pcsE es) + 1 :=
 tree_bound (pcsE es) fun l hl => by
  obtain ⟨x, hx, rfl⟩ := List.mem_map.1 hl
  exact fun p hp => ((hg.wf hx).1 p hp).1
theorem nodes_load {es : List En} (hg : GoodE es) (h : 3 * loadP (pcsE es) ≤ 4194304) : nodesE es ≤ 4194305 := by
 have h1 := nodes_bound hg
 have h2 := edgL_load (pcsE es)
 omega
set_option maxRecDepth 20000 in
theorem Nodes_any (S : Nat → Prop) (w : World) (q : Nat) (es : List En) (hT : TreeAt S w q es) (hg : GoodE es) (hld : 3 * loadP (pcsE es) ≤ 4194304) :
  Calls Tryz.prog 67 #[.pointer (some ⟨q, 0, none⟩)] w fun e w' => e = .returned (.int .i64 (nodesE es : Nat)) ∧ Drawn w w' := by
 have hn := nodes_load hg hld
 obtain ⟨hnd, hfull⟩ := treeP_full hg
 obtain ⟨A, c, rp, T, hSq, hql, q0, q1, hf0, hf1, hA, hrow, heo, hTT, hat⟩ := hT
 unfold nodesE at hn ⊢
 rw [hTT] at hfull hn ⊢
 have HC := Lib.hid (count_any (sizeT T + 1) T (Nat.lt_succ_self _) S w (.pointer rp) hfull hat (by omega))
 clear hTT hat hfull hnd hrow heo hA hn
 go_enter Tryz.func67, Tryz.ntmps67
 go_wp2_with fail
 refine HC.out.mono ?_
 rintro e w1 ⟨rfl, hd⟩
 go_wp2
 go_ret
 exact ⟨rfl, hd⟩
theorem Hold.trans {S : Nat → Prop} {A B C : World} (h : Hold S A B) (k : Hold S B C) : Hold S A C :=
 ⟨Nat.le_trans h.1 k.1, fun b hb hl => (k.2 b hb (Nat.lt_of_lt_of_le hl h.1)).trans (h.2 b hb hl)⟩
theorem Hold.refl (S : Nat → Prop) (w : World) : Hold S w w := ⟨Nat.le_refl _, fun _ _ _ => rfl⟩
attribute [local go_sem] Oper.semAt_some
def sumE (es : List En) : Nat := (es.map fun x => x.1.size + 1).sum
theorem sumE_cons (x : En) (es : List En) : sumE (x :: es) = x.1.size + 1 + sumE es := by simp [sumE]
theorem sumE_append (a b : List En) : sumE (a ++ b) = sumE a + sumE b := by simp [sumE]
theorem sumE_len (es : List En) : es.length ≤ sumE es := by
 induction es with
 | nil => exact Nat.le_refl _
 | cons x es ih => rw [sumE_cons, List.length_cons]; omega
theorem sumE_mem {es : List En} {x : En} (h : x ∈ es) : x.1.size + 1 ≤ sumE es := by
 induction es with
 | nil => cases h
 | cons y es ih =>
  rw [sumE_cons]
  rcases List.mem_cons.1 h with rfl | h
  ·omega
  ·have := ih h; omega
theorem sumE_ins (es : List En) (x : En) : sumE (insE es x) = sumE es + (x.1.size + 1) := by
 have h := sumE_append (es.take (cntE es x.2.2.1)) (es.drop (cntE es x.2.2.1))
 rw [List.take_append_drop] at h
 unfold insE
 rw [sumE_append, sumE_cons]
 omega
theorem sumE_sub {a b : List En} (h : a.Sublist b) : sumE a ≤ sumE b := by
 induction h with
 | slnil => exact Nat.le_refl _
 | cons x _ ih => rw [sumE_cons]; omega
 | cons_cons x _ ih => rw [sumE_cons, sumE_cons]; omega
theorem load_sum : ∀ {es : List En}, (∀ x ∈ es, totP x.2.2.1 ≤ x.1.size) → loadP (pcsE es) ≤ sumE es
 | [], _ => Nat.le_refl _
 | x :: es, h => by
  have ih := load_sum (es := es) fun y hy => h y (List.mem_cons_of_mem _ hy)
  have h1 := h x (List.mem_cons_self ..)
  have e : pcsE (x :: es) = x.2.2.1 :: pcsE es := rfl
  rw [e, loadP_cons, sumE_cons]
  omega
theorem GoodE.load {es : List En} (h : GoodE es) : loadP (pcsE es) ≤ sumE es := load_sum fun _ hx => (h.wf hx).2.2.1
theorem GoodE.ins {es : List En} (h : GoodE es) {s : ByteArray} {loc : Option Addr × Nat} {v : (Option Addr × Nat × Nat)} (hs : (splitP s).2.2 = true) (hn : ∀ y ∈ es, ordP y.2.2.1 (splitP s).1 ≠ 0) : GoodE (insE es (s, loc, (splitP s).1, v)) := by
 refine ⟨?_, fun x hx => ?_⟩
 ·rw [pcsE_ins]
  exact insL_sort h.sort fun l hl => by
   obtain ⟨y, hy, rfl⟩ := List.mem_map.1 hl
   exact hn y hy
 ·rcases insE_mem hx with rfl | hx
  ·exact (split_wf hs).2.2.2.2.2.1
  ·exact h.pcs x hx
def Kp (w0 w : World) (q : Nat) (es : List En) (B : Nat) : Prop := ∃ S, TreeAt S w q es ∧ GoodE es ∧ sumE es ≤ B ∧ w0.heap.size ≤ q ∧ Below w0.heap.size w0 w
section
variable {w0 w w' : World} {q B : Nat} {es : List En}
theorem Kp.below (h : Kp w0 w q es B) (hb : Below w.heap.size w w') : Kp w0 w' q es B := by
 obtain ⟨S, h1, h2, h3, h4, h5⟩ := h
 exact ⟨S, h1.below hb, h2, h3, h4, h5.trans (hb.mono h5.size)⟩
theorem Kp.good (h : Kp w0 w q es B) : GoodE es := by obtain ⟨S, _, h2, _⟩ := h; exact h2
theorem Kp.sum (h : Kp w0 w q es B) : sumE es ≤ B := by obtain ⟨S, _, _, h3, _⟩ := h; exact h3
theorem Kp.old (h : Kp w0 w q es B) : w0.heap.size ≤ q := by obtain ⟨S, _, _, _, h4, _⟩ := h; exact h4
theorem Kp.base (h : Kp w0 w q es B) : Below w0.heap.size w0 w := by obtain ⟨S, _, _, _, _, h5⟩ := h; exact h5
theorem Kp.lt (h : Kp w0 w q es B) : q < w.heap.size := by obtain ⟨S, h1, _⟩ := h; exact h1.lt
theorem Kp.more {B' : Nat} (h : Kp w0 w q es B) (hB : B ≤ B') : Kp w0 w q es B' := by
 obtain ⟨S, h1, h2, h3, h4, h5⟩ := h
 exact ⟨S, h1, h2, Nat.le_trans h3 hB, h4, h5⟩
theorem Turn.refl (q : Nat) (w : World) : Turn q w w := ⟨rfl, rfl, rfl, Nat.le_refl _, fun _ _ _ => rfl⟩
theorem Turn.trans {a b c : World} (h : Turn q a b) (k : Turn q b c) : Turn q a c :=
 ⟨k.os.trans h.os, k.tape.trans h.tape, k.output.trans h.output, Nat.le_trans h.size k.size, fun i hi hq => (k.block i (Nat.lt_of_lt_of_le hi h.size) hq).trans (h.block i hi hq)⟩
theorem Kp.turn {q' : Nat} {es' : List En} {B' : Nat} (hq : ∃ S, TreeAt S w q' es' ∧ GoodE es' ∧ sumE es' ≤ B' ∧ w0.heap.size ≤ q' ∧ Below w0.heap.size w0 w ∧ ¬ S q ∧ q' ≠ q) (h : Turn q w w') (hq0 : w0.heap.size ≤ q) :
  ∃ S, TreeAt S w' q' es' ∧ GoodE es' ∧ sumE es' ≤ B' ∧ w0.heap.size ≤ q' ∧ Below w0.heap.size w0 w' ∧ ¬ S q ∧ q' ≠ q := by
 obtain ⟨S, h1, h2, h3, h4, h5, h6, h7⟩ := hq
 exact ⟨S, h1.hold (h.hold h6) (h.block q' h1.lt h7), h2, h3, h4, h5.trans (h.below hq0 h5.size), h6, h7⟩
end
section
variable {w0 w : World} {q B : Nat} {es : List En}
end
end Go.Proofs.YtiohmnhbmmhnhaaGreatDoor
