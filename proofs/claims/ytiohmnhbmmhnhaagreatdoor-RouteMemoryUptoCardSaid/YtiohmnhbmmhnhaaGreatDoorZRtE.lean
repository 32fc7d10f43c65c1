/-
 RtE, without what this claim does not reach.
-/
import Derived.Test.YtiohmnhbmmhnhaaGreatDoorZRtF
import Derived.Maps.OwnOps
import Derived.Maps.OwnSet
import Derived.Maps.Views
import Derived.Maps.RangeWalk
import Derived.Sort.KeysCollected
import Derived.Sort.OwnSorted
import Derived.Test.YtiohmnhbmmhnhaaGreatDoorZTgNo
namespace Go.Proofs.YtiohmnhbmmhnhaaGreatDoor
open Go.RowKit Go.Shelf Go.Lib Go.Maps Go.WideMaps Go.Sort
theorem strKeyed : Keyed Tryz.prog 9 := string_keyed Tryz.underlying9
theorem zeroIntM (w : World) : (zeroValue 3).run Tryz.prog w = .ok (.int .i64 0) w := by kernel_rfl
def klS (s : ByteArray) : Lit := .string s.data.toList
theorem klS_ne {a b : ByteArray} (h : a ≠ b) : klS a ≠ klS b := fun e => h (bytes_ext (by unfold klS at e; injection e))
def CntM (D : DataW Unit) (n : Nat) (S : List ByteArray) : Prop :=
 IsMap D ∧ (∀ s : ByteArray, ∃ c : Int, D.atKey (klS s) (.lit (.int .i64 0)) = .lit (.int .i64 c) ∧ 0 ≤ c ∧ c ≤ n) ∧ ∀ s, Maps.has D (klS s) = true ↔ s ∈ S
theorem CntM.empty : CntM (.map []) 0 [] := ⟨isMap_empty, fun s => ⟨0, rfl, by omega, by omega⟩, fun s => by simp [Maps.has]⟩
theorem CntM.put {D : DataW Unit} {n : Nat} {S : List ByteArray} (h : CntM D n S) (t : ByteArray) (v : Int) (h1 : 1 ≤ v) (h2 : v ≤ n + 1) : CntM (D.put (klS t) (.lit (.int .i64 v))) (n + 1) (S ++ [t]) := by
 refine ⟨h.1.put _ _, fun s => ?_, fun s => ?_⟩
 ·by_cases e : s = t
  ·subst e
   exact ⟨v, atKey_put_same h.1 (by unfold klS; trivial) _ _, by omega, by omega⟩
  ·obtain ⟨c, hc, c0, c1⟩ := h.2.1 s
   exact ⟨c, (atKey_put_other (klS_ne e) _ _).trans hc, c0, by omega⟩
 ·by_cases e : s = t
  ·subst e
   rw [has_put_same h.1 (by unfold klS; trivial)]
   simp
  ·rw [has_put_other (klS_ne e), h.2.2 s]
   simp [e]
def EndM (w : World) (mb n : Nat) (S : List ByteArray) : Prop := ∃ D : DataW Unit, w.ownsMap Tryz.prog 9 (plainElem Tryz.prog 3) mb n D ∧ CntM D n S
section
variable {w w' : World} {mb n : Nat} {S : List ByteArray}
theorem EndM.made (w : World) : EndM (w.alloc (.map #[] 0)) w.heap.size 0 [] := ⟨.map [], World.ownsMap_made _ _ _ _, CntM.empty⟩
theorem EndM.lt (h : EndM w mb n S) : mb < w.heap.size := let ⟨_, h, _⟩ := h; h.lt
theorem EndM.kept (h : EndM w mb n S) {row : Option Nat} (hg : w.grownBy w' row) (hne : some mb ≠ row) : EndM w' mb n S := let ⟨D, h, hc⟩ := h; ⟨D, World.ownsMap.kept h hg hne, hc⟩
theorem litM_inj {a b : Int} (h : DataW.lit (H := Unit) (.int .i64 a) = .lit (.int .i64 b)) : a = b := by
 injection h with h
 injection h
theorem EndM.look (h : EndM w mb n S) (s : ByteArray) (hs : s.size ≤ maxLen) : ∃ c : Int, (Instr.lookup 169 (.map (some mb)) (.string s) false).run Tryz.prog w = .ok (.int .i64 c) w ∧ 0 ≤ c ∧ c ≤ n := by
 obtain ⟨D, ho, hc⟩ := h
 obtain ⟨c, hat, c0, c1⟩ := hc.2.1 s
 refine ⟨c, ?_, c0, c1⟩
 obtain ⟨c', hrun, hat', _⟩ := ho.lookup_int strKeyed Tryz.underlying169 Tryz.underlying3 (zeroIntM _) (keyOf_string_mk Tryz.underlying9 hs)
 unfold klS at hat
 rw [hat'] at hat
 rw [← litM_inj hat]
 exact hrun
set_option maxRecDepth 20000 in
theorem wpList_insert_endM {ops : Array Oper} {rest : List Oper} {o : Oper} {a : Act} {Q : Exit → Act → World → Prop}
  (hg : o.guard = none) (m x v : Operand) (hop : o.op = Op.insert 169 m x v) (hm : a.eval m = .map (some mb)) (hE : EndM w mb n S) (hn : n < maxLen) (s : ByteArray) (c : Int)
  (hx : a.eval x = .string s) (hv : a.eval v = .int .i64 c) (hs : s.size ≤ maxLen) (h1 : 1 ≤ c) (h2 : c ≤ n + 1) (h3 : c ≤ 9223372036854775807)
  (hK : ∀ w', EndM w' mb (n + 1) (S ++ [s]) → w.grownBy w' (some mb) → wpList Tryz.prog ops Q rest (a.put o.dst undef) w') : wpList Tryz.prog ops Q (o :: rest) a w := by
 obtain ⟨D, ho, hc⟩ := hE
 refine wpList_plain hg fun K' hK' => ?_
 obtain ⟨w', hrun, r1, r2⟩ := ho.update strKeyed Tryz.underlying169 hn (keyOf_string_mk Tryz.underlying9 hs) (plainElem_int (a := c) Tryz.underlying3 (WalkArith.wf_i64 (by omega)))
 unfold Oper.wp
 simp [execOp, hop, hm, hx, hv, hrun, Result.andThen]
 exact hK' _ _ (hK w' ⟨_, r1, hc.put s c h1 h2⟩ r2)
set_option maxRecDepth 20000 in
theorem wpList_update_endM {ops : Array Oper} {rest : List Oper} {o : Oper} {a : Act} {Q : Exit → Act → World → Prop}
  (hg : o.guard = none) (m x v : Operand) (hop : o.op = Op.mapUpdate 169 m x v) (hm : a.eval m = .map (some mb)) (hE : EndM w mb n S) (hn : n < maxLen) (s : ByteArray) (c : Int)
  (hx : a.eval x = .string s) (hv : a.eval v = .int .i64 c) (hs : s.size ≤ maxLen) (h1 : 1 ≤ c) (h2 : c ≤ n + 1) (h3 : c ≤ 9223372036854775807)
  (hK : ∀ w', EndM w' mb (n + 1) (S ++ [s]) → w.grownBy w' (some mb) → wpList Tryz.prog ops Q rest (a.put o.dst undef) w') : wpList Tryz.prog ops Q (o :: rest) a w := by
 obtain ⟨D, ho, hc⟩ := hE
 refine wpList_plain hg fun K' hK' => ?_
 obtain ⟨w', hrun, r1, r2⟩ := ho.update strKeyed Tryz.underlying169 hn (keyOf_string_mk Tryz.underlying9 hs) (plainElem_int (a := c) Tryz.underlying3 (WalkArith.wf_i64 (by omega)))
 unfold Oper.wp
 simp [execOp, hop, hm, hx, hv, hrun, Result.andThen]
 exact hK' _ _ (hK w' ⟨_, r1, hc.put s c h1 h2⟩ r2)
end
def keysOf1 (m : ByteArray) : List ByteArray := if m = mGet then [m, mHead] else [m]
def keysM (ms : List ByteArray) : List ByteArray := ms.flatMap keysOf1
def metOf (l : List Rt) (k : Nat) : List ByteArray := match l[k]? with
 | some r => r.1
 | none => []
def accM (l : List Rt) (ns : List Nat) : List ByteArray := mOpt :: ns.flatMap fun k => keysM (metOf l k)
theorem accM_snoc (l : List Rt) (ns : List Nat) (n : Nat) : accM l (ns ++ [n]) = accM l ns ++ keysM (metOf l n) := by
 unfold accM
 rw [List.flatMap_append]
 simp
theorem keysM_snoc (ms : List ByteArray) (m : ByteArray) : keysM (ms ++ [m]) = keysM ms ++ keysOf1 m := by unfold keysM; rw [List.flatMap_append]; simp
theorem keys_get {m : ByteArray} (h : m = mGet) : keysOf1 m = [m] ++ [mHead] := by unfold keysOf1; rw [if_pos h]; rfl
theorem keys_not {m : ByteArray} (h : ¬ m = mGet) : keysOf1 m = [m] := by unfold keysOf1; rw [if_neg h]
theorem keysM_mem {ms : List ByteArray} {s : ByteArray} : s ∈ keysM ms ↔ s ∈ ms ∨ (s = mHead ∧ mGet ∈ ms) := by
 unfold keysM
 rw [List.mem_flatMap]
 constructor
 ·rintro ⟨m, hm, hs⟩
  unfold keysOf1 at hs
  split at hs
  ·rename_i h
   rcases List.mem_cons.1 hs with rfl | hs
   ·exact .inl hm
   ·rw [List.mem_singleton.1 hs]; exact .inr ⟨rfl, h ▸ hm⟩
  ·rw [List.mem_singleton.1 hs]; exact .inl hm
 ·rintro (hs | ⟨rfl, hs⟩)
  ·refine ⟨s, hs, ?_⟩
   unfold keysOf1
   split <;> simp
  ·refine ⟨mGet, hs, ?_⟩
   unfold keysOf1
   rw [if_pos rfl]
   simp
theorem accM_mem {l : List Rt} {ns : List Nat} {s : ByteArray} : s ∈ accM l ns ↔ InAllow l ns s := by
 unfold accM InAllow
 rw [List.mem_cons, List.mem_flatMap]
 refine or_congr Iff.rfl ?_
 constructor
 ·rintro ⟨k, hk, hs⟩
  unfold metOf at hs
  cases hl : l[k]? with
  | none => rw [hl] at hs; simp [keysM] at hs
  | some r =>
   rw [hl] at hs
   rcases keysM_mem.1 hs with h | ⟨h1, h2⟩
   ·exact .inl ⟨k, hk, r, hl, h⟩
   ·exact .inr ⟨h1, k, hk, r, hl, h2⟩
 ·rintro (⟨k, hk, r, hr, hs⟩ | ⟨h1, k, hk, r, hr, hs⟩)
  ·refine ⟨k, hk, ?_⟩
   unfold metOf
   rw [hr]
   exact keysM_mem.2 (.inl hs)
  ·refine ⟨k, hk, ?_⟩
   unfold metOf
   rw [hr]
   exact keysM_mem.2 (.inr ⟨h1, hs⟩)
def leS (a b : ByteArray) : Bool := decide (a.data.toList ≤ b.data.toList)
def ltS (a b : ByteArray) : Prop := a.data.toList < b.data.toList
theorem leS_lt (a b : ByteArray) (h : leS a b = true) (hne : a ≠ b) : ltS a b := by
 have h1 : a.data.toList ≤ b.data.toList := of_decide_eq_true h
 have h2 : a.data.toList ≠ b.data.toList := fun e => hne (bytes_ext e)
 exact Classical.byContradiction fun hn => h2 (List.le_antisymm h1 hn)
theorem leS_not (a b : ByteArray) (h : ¬ leS a b = true) : ltS b a := by
 unfold leS at h
 have h1 : ¬ a.data.toList ≤ b.data.toList := by simpa using h
 exact Classical.byContradiction fun hn => h1 hn
theorem ltS_irr (a : ByteArray) : ¬ ltS a a := List.lt_irrefl _
theorem ltS_trans (a b c : ByteArray) (h1 : ltS a b) (h2 : ltS b c) : ltS a c := List.lt_trans h1 h2
def unS (b : List UInt8) : ByteArray := ⟨b.toArray⟩
theorem encS_un (l : List (List UInt8)) : l.map encStr = (l.map unS).map Value.string := by
 rw [List.map_map]
 rfl
theorem sorted_rise {ss : List (List UInt8)} (hn : ss.Nodup) : ((ss.mergeSort leB).map unS).Pairwise ltS := by
 rw [List.pairwise_map]
 have tr : ∀ a b c : List UInt8, leB a b = true → leB b c = true → leB a c = true := fun a b c h1 h2 => by simp only [leB, decide_eq_true_eq] at *; exact List.le_trans h1 h2
 have tto : ∀ a b : List UInt8, (leB a b || leB b a) = true := fun a b => by simp only [leB, Bool.or_eq_true, decide_eq_true_eq]; exact List.le_total a b
 have h1 := List.pairwise_mergeSort tr tto ss
 have h2 : (ss.mergeSort leB).Nodup := (List.mergeSort_perm ss leB).nodup_iff.2 hn
 refine (h1.and h2).imp fun {a b} h => ?_
 obtain ⟨h3, h4⟩ := h
 exact leS_lt (unS a) (unS b) h3 (fun e => h4 (by have := congrArg (fun x : ByteArray => x.data.toList) e; exact this))
def allowOf (l : List Rt) (g : Rt → Bool) : List ByteArray := rising leS (withL (allR l g))
theorem allow_of {l : List Rt} {g : Rt → Bool} {D : DataW Unit} {n : Nat} {ss : List (List UInt8)} (hD : CntM D n (accM l (placesOf g l 0))) (hnd : ss.Nodup) (hk : ∀ x, x ∈ ss ↔ Maps.has D (.string x) = true) : (ss.mergeSort leB).map unS = allowOf l g := by
 refine allow_same leS_lt leS_not ltS_irr ltS_trans (sorted_rise hnd) fun s => ?_
 rw [List.mem_map, ← accM_mem, ← hD.2.2 s]
 constructor
 ·rintro ⟨b, hb, rfl⟩
  exact (hk b).1 ((List.mergeSort_perm ss leB).mem_iff.1 hb)
 ·intro h
  exact ⟨s.data.toList, (List.mergeSort_perm ss leB).mem_iff.2 ((hk _).2 h), rfl⟩
set_option maxRecDepth 100000 in
set_option maxHeartbeats 4000000 in
theorem methods_any (t : Nat) (sl : Bool) (l : List Rt) (NA : Option Addr) (nc : Nat) (g : Rt → Bool) (w : World) (hT : TableAt w t sl l) (hN : Row w NA (numsV (placesOf g l 0))) :
  Calls Tryz.prog 48 #[.pointer (some ⟨t, 0, none⟩), .slice NA (placesOf g l 0).length nc] w (GivesTx w (allowOf l g)) := by
 obtain ⟨i0, hi0, hz0, hz1, hz2⟩ := info_parts info_string
 have hmm := @run_makeMap Tryz.prog
 obtain ⟨q, es, S, A, c, rs, h⟩ := hT
 have hpl := places_len g l 0
 have hfew := h.few
 have HPM := Lib.hid (show ∀ n ∈ placesOf g l 0, ∃ x, rs[n]? = some x ∧ Hid (metOf l n = x.1.2.1 ∧ x.1.2.1.length ≤ 1048576 ∧ ∀ m ∈ x.1.2.1, m.size ≤ 1048576) from fun n hn => by
  obtain ⟨_, y, hy, _⟩ := places_mem.1 hn
  rw [Nat.sub_zero] at hy
  have hlr : n < rs.length := by rw [← plA_length rs, h.pl]; exact lt_of_some hy
  obtain ⟨x, hx⟩ := some_of_lt hlr
  have hpx : l[n]? = some x.1.2 := by rw [← h.pl]; exact plA_get hx
  have hsl := slim_mem h.bulk (List.mem_of_getElem? hpx)
  exact ⟨x, hx, Lib.hid ⟨by unfold metOf; rw [hpx], hsl.num, hsl.met⟩⟩)
 have HFIN := Lib.hid (fun (D : DataW Unit) (n : Nat) (ss : List (List UInt8)) (hD : CntM D n (accM l (placesOf g l 0))) hnd hk => allow_of (g := g) (ss := ss) hD hnd hk)
 have HP := Lib.hid h
 have HNR := Lib.hid hN
 obtain ⟨ns, hns⟩ : ∃ ns, placesOf g l 0 = ns := ⟨_, rfl⟩
 rw [hns] at hpl HPM HFIN HNR ⊢
 have hnl : ns.length ≤ 256 := by omega
 generalize allowOf l g = out at *
 clear h hN hns hpl hfew
 have E0 := EndM.made w
 have B0 : Below w.heap.size w (w.alloc (.map #[] 0)) := (Below.refl _ _).alloc (Nat.le_refl _) _
 go_enter Tryz.func48, Tryz.ntmps48
 go_wp2_with (refine wpList_insert_endM rfl _ _ _ rfl rfl E0 (by unfold maxLen; omega) ⟨#[79, 80, 84, 73, 79, 78, 83]⟩ 1 rfl rfl (by decide) (by omega) (by omega) (by omega) ?_)
 intro w1 E1 g1
 have B1 := B0.grown g1 B0.size (fun k hk => by injection hk with hk; omega)
 have HE1 : Hid (EndM w1 w.heap.size 1 (accM l (ns.take 0))) := Lib.hid E1
 have HB1 := Lib.hid B1
 clear g1 E0 B0 E1 B1
 obtain ⟨mb, hmb⟩ : ∃ mb : Nat, mb = w.heap.size := ⟨_, rfl⟩
 have HMB := Lib.hid hmb
 have hmbl : mb ≤ w.heap.size := by omega
 have hmbg : w.heap.size ≤ mb := by omega
 rw [← hmb] at HE1
 go_wp2
 rw [← hmb]
 clear hmb
 go_loopw [16] (fun i wr => ∃ (j n : Nat), j ≤ ns.length ∧ i = .int .i64 j ∧ n ≤ 1 + 2097152 * j ∧ Hid (EndM wr mb n (accM l (ns.take j))) ∧ Hid (Below w.heap.size w wr)) (fun i _ => ns.length - (RowKit.intOf i).toNat)
 case atStart => exact ⟨0, 1, by omega, rfl, by omega, HE1, HB1⟩
 case round =>
  obtain ⟨j, n, hj, rfl, hn, HE, HB⟩ := hrel
  by_cases hjl : j < ns.length
  ·obtain ⟨k, hk⟩ := some_of_lt hjl
   obtain ⟨x, hx, HX⟩ := HPM.out k (List.mem_of_getElem? hk)
   obtain ⟨bn, on, rfl, hbn, hcn⟩ := (HNR.out.below HB.out).at_ (numsV_get hk)
   have hcn0 := hcn _ _ (numsV_get hk)
   have hp := HP.out.below HB.out
   obtain ⟨b, off, rfl, hb, f0, f1, f2, f3, f4, f5, f6, f7, f8⟩ := hp.row.ra hx
   have HM := Lib.hid (HP.out.ok x (List.mem_of_getElem? hx)).1
   have hkl : k < rs.length := lt_of_some hx
   have hki : (k : Int) < (rs.length : Int) := by omega
   have hji : (j : Int) < (ns.length : Int) := by omega
   have q1 := hp.c1
   have htl := hp.low
   have HTS := Lib.hid (take_snoc hk)
   clear hcn hp hx hk f1 f2 f3 f4 f5 f6 f7 f8
   obtain ⟨⟨⟨MA, mc⟩, ml, p⟩, XT⟩ := x
   dsimp only at f0 HX HM
   have hml := HX.out.2.1
   have HAC := Lib.hid (show accM l (ns.take (j + 1)) = accM l (ns.take j) ++ keysM ml by rw [HTS.out, accM_snoc, HX.out.1])
   have hlt1 := HB.out.size
   go_wp2
   obtain ⟨xo, rfl⟩ : ∃ xo : World, xo = wr := ⟨_, rfl⟩
   go_loopw [29] (fun i wr => ∃ (kk n2 : Nat), kk ≤ ml.length ∧ i = .int .i64 kk ∧ n2 ≤ n + 2 * kk ∧ Hid (EndM wr mb n2 (accM l (ns.take j) ++ keysM (ml.take kk))) ∧ Hid (Below w.heap.size w wr)) (fun i _ => ml.length - (RowKit.intOf i).toNat)
   case atStart => exact ⟨0, n, by omega, rfl, by omega, Lib.hid (by show EndM _ _ _ (accM l (ns.take j) ++ []); rw [List.append_nil]; exact HE.out), HB⟩
   case round =>
    obtain ⟨kk, n2, hkk, rfl, hn2, HE2, HB2⟩ := hrel
    by_cases hkl2 : kk < ml.length
    ·obtain ⟨m, hm⟩ := some_of_lt hkl2
     obtain ⟨b2, off2, rfl, hb2, h0⟩ := (HM.out.below HB2.out).str hm
     have hms := HX.out.2.2 m (List.mem_of_getElem? hm)
     have HTK := Lib.hid (take_snoc hm)
     obtain ⟨cc, hrun, c0, c1⟩ := HE2.out.look m (by unfold maxLen; omega)
     have hsz2 := HB2.out.size
     have hkki : (kk : Int) < (ml.length : Int) := by omega
     clear hm
     by_cases hg : m = mGet
     ·have hgt : (m.toList == [71, 69, 84]) = true := by rw [hg]; decide +kernel
      have HKG := Lib.hid (keys_get hg)
      clear hg
      go_wp2_with (refine wpList_update_endM rfl _ _ _ rfl rfl HE2.out (by unfold maxLen; omega) m (cc + 1) rfl rfl (by unfold maxLen; omega) (by omega) (by omega) (by omega) ?_)
      intro w9 hE9 g9
      obtain ⟨c9, hrun9, d0, d1⟩ := hE9.look ⟨#[72, 69, 65, 68]⟩ (by decide)
      have HB9 := Lib.hid (HB2.out.grown g9 HB2.out.size (fun k hk => by injection hk with hk; omega))
      clear g9 hrun h0
      go_wp2_with (refine wpList_update_endM rfl _ _ _ rfl rfl hE9 (by unfold maxLen; omega) ⟨#[72, 69, 65, 68]⟩ (c9 + 1) rfl rfl (by decide) (by omega) (by omega) (by omega) ?_)
      intro wA hEA gA
      have HBA := Lib.hid (HB9.out.grown gA HB9.out.size (fun k hk => by injection hk with hk; omega))
      have HEA : Hid (EndM wA mb (n2 + 1 + 1) (accM l (ns.take j) ++ keysM (ml.take (kk + 1)))) := Lib.hid (by
       rw [HTK.out, keysM_snoc, HKG.out]
       have e := hEA
       simp only [List.cons_append, List.nil_append] at e ⊢
       exact e)
      clear gA hEA hE9 hrun9
      go_wp2
      go_roundw
      case rel => exact ⟨kk + 1, n2 + 1 + 1, by omega, by go_num, by omega, HEA, HBA⟩
      case measure => simp [RowKit.intOf]; omega
     ·have hgt : (m.toList == [71, 69, 84]) = false := by
       have := eq_str m mGet
       rw [show mGet.toList = [71, 69, 84] by decide +kernel] at this
       rw [this]
       exact decide_eq_false hg
      have HKG := Lib.hid (keys_not hg)
      clear hg
      go_wp2_with (refine wpList_update_endM rfl _ _ _ rfl rfl HE2.out (by unfold maxLen; omega) m (cc + 1) rfl rfl (by unfold maxLen; omega) (by omega) (by omega) (by omega) ?_)
      intro w9 hE9 g9
      have HB9 := Lib.hid (HB2.out.grown g9 HB2.out.size (fun k hk => by injection hk with hk; omega))
      have HEA : Hid (EndM w9 mb (n2 + 1) (accM l (ns.take j) ++ keysM (ml.take (kk + 1)))) := Lib.hid (by
       rw [HTK.out, keysM_snoc, HKG.out]
       exact hE9)
      clear g9 hE9 hrun h0
      go_wp2
      go_roundw
      case rel => exact ⟨kk + 1, n2 + 1, by omega, by go_num, by omega, HEA, HB9⟩
      case measure => simp [RowKit.intOf]; omega
    ·obtain rfl : kk = ml.length := by omega
     have HE3 : Hid (EndM wr mb n2 (accM l (ns.take (j + 1)))) := Lib.hid (by rw [HAC.out]; have := HE2.out; rwa [List.take_length] at this)
     go_wp2
     go_roundw
     case rel => exact ⟨j + 1, n2, by omega, by go_num, by omega, HE3, HB2⟩
     case measure => simp [RowKit.intOf]; omega
  ·obtain rfl : j = ns.length := by omega
   have HE2 : Hid (EndM wr mb n (accM l ns)) := Lib.hid (by have := HE.out; rwa [List.take_length] at this)
   clear HE hjl HE1 HB1
   obtain ⟨D, hown, hcD⟩ := HE2.out
   have HCD := Lib.hid hcD
   have hsz := hown.size_le
   have hbl := hown.lt
   have HMD : Hid (mb < w.heap.size + 1) := Lib.hid (by omega)
   clear hcD HE2
   obtain ⟨xo, rfl⟩ : ∃ xo : World, xo = wr := ⟨_, rfl⟩
   go_wp2_with (first
    | (at_range; refine wpList_range_own _ rfl _ 169 rfl 9 3 strKeyed Tryz.underlying169 (plainElem Tryz.prog 3) mb n D rfl hown ?_; intro w0 hrg0 hg0 hs0))
   go_frame
   have HB0 := Lib.hid (HB.out.grown hg0 HB.out.size (fun k hk => by cases hk))
   clear hg0 hs0 hown
   obtain ⟨r, hr⟩ : ∃ r : Nat, r = xo.heap.size := ⟨_, rfl⟩
   rw [← hr] at hrg0
   have HRL := Lib.hid (show w.heap.size ≤ r by rw [hr]; exact HB.out.size)
   rw [← hr]
   clear hr
   go_loopw [10] (fun v wr => ∃ (left : Lit → Bool) (cnt : Nat) (ss : List (List UInt8)), Hid (wr.ranges Tryz.prog 9 (plainElem Tryz.prog 3) mb r n D left cnt) ∧ Hid (ss.length + cnt ≤ Maps.size D) ∧
    wr.ownsRow (w.heap.size + 1) 9 1 v ss.length (ss.map encStr) ∧ Hid (Collected D left ss) ∧ Hid (Below w.heap.size w wr)) (fun _ wr => wr.rangeLeft mb r)
   case atStart => exact ⟨_, _, [], Lib.hid hrg0, Lib.hid (by simp), World.ownsRow_nil _ _ _ _, Lib.hid (Collected.start D), HB0⟩
   case round =>
    obtain ⟨left, cnt, ss, HRG, HCS, hrow, HC, HBX⟩ := hrel
    have hcs := HCS.out
    have hsz2 := HB.out.size
    obtain ⟨xr, rfl⟩ : ∃ xr : World, xr = wr := ⟨_, rfl⟩
    go_wp2_with (first
     | (at_next; refine wpList_next_ranges _ rfl _ rfl 9 strKeyed (plainElem Tryz.prog 3) encStr (Value.int .i64) (fun key kl hk => by obtain ⟨x, hx, _⟩ := Maps.keyOf_str Tryz.underlying9 hk; exact ⟨x, hx⟩) (fun v y hv => by obtain ⟨c, rfl, _⟩ := plainElem_int_inv Tryz.underlying3 hv; exact ⟨c, rfl⟩) mb r n _ _ _ rfl HRG.out ?_ ?_))
    ·intro hc0 hl0
     have hown := HRG.out.owns
     have hperm := HC.out.perm hown strKeyed Tryz.underlying9 hl0
     have hmem : ∀ x, x ∈ ss ↔ Maps.has D (.string x) = true := fun x => by rw [HC.out.2 x, hl0]; simp
     have HOUT := Lib.hid (HFIN.out D n ss HCD.out HC.out.1 hmem)
     rcases hrow.2 with ⟨hnil, hn0⟩ | ⟨gb, cap, cur, rfl, hbase, hb, h1, h2, h3, h4⟩
     ·exfalso
      have hs0 : ss = [] := List.eq_nil_of_length_eq_zero hn0
      have := (HCD.out.2.2 mOpt).2 (List.mem_cons_self ..)
      have h5 := (hmem mOpt.data.toList).2 this
      rw [hs0] at h5
      cases h5
     have hH : Holds encStr xr gb 0 ss.toArray := holds_of_block hb (by simpa using h4)
     have hgl : gb < xr.heap.size := (Array.getElem?_eq_some_iff.1 hb).1
     have HSO := Lib.hid (Tryz.slices_Sort_string gb 0 cap ss xr hH hgl (by have := hsz; omega))
     have HSR := Lib.hid (fun (nn : Nat) (os : Array Obj) => ownsRow_sorted (n := nn) (os := os) (ss := ss) (ts := ss.mergeSort leB) (by simp) hbase hb h1 h2 h3)
     have HBS := Lib.hid (fun (nn : Nat) (os : Array Obj) => HBX.out.grown (grownBy_sorted (w := xr) (g := gb) (n := nn) (os := os) (ss.mergeSort leB).toArray) HBX.out.size (fun k hk => by cases hk; omega))
     have HLN := Lib.hid (show ss.length = out.length by rw [← HOUT.out, List.length_map, List.length_mergeSort])
     clear hown hperm hmem hrow hH hb h1 h2 h3 h4 hbase hc0 hl0
     go_wp2_with fail
     refine HSO.out.mono ?_
     rintro e w' ⟨rfl, nn, os, rfl⟩
     have HR2 := Lib.hid (HSR.out nn os)
     have HB2 := Lib.hid (HBS.out nn os)
     clear HSO HSR HBS
     generalize grow (putRow encStr (Sort.ahead xr nn) gb 0 (ss.mergeSort fun x y => decide (x ≤ y)).toArray) os = wz at *
     go_wp2
     go_ret
     refine ⟨some ⟨gb, 0, none⟩, cap, by rw [← HLN.out]; rfl, ?_, HB2.out⟩
     have := HR2.out
     rw [encS_un, HOUT.out] at this
     rw [← HLN.out]
     exact this.mono (Nat.le_succ _)
    ·intro x c kl yd yp w2 cnt2 hkey hlk hv hat hrg2 hlt hg2 hs2 hen
     obtain ⟨x', ex, rfl, hxl⟩ := Maps.keyOf_str Tryz.underlying9 hkey
     obtain rfl : x = x' := encStr_inj ex
     have hrow2 := hrow.kept hg2 (Or.inr (row_ne_iter hrow HRG.out).symm)
     have HC2 := Lib.hid (HC.out.step hlk hat)
     have HCT := Lib.hid (show ss.length + 1 + cnt2 ≤ Maps.size D by have := HCS.out; omega)
     have HLT := Lib.hid hlt
     have HBX2 := Lib.hid (HBX.out.grown hg2 HBX.out.size (fun k hk => by injection hk with hk; subst hk; exact HRL.out))
     have hcs2 := HCT.out
     clear hs2 hrow hkey hlk hat hlt hcs
     go_wp2_with (at_builtin; refine wpList_append_any _ rfl (.tmp 50) (.tmp 52) 33 rfl (w.heap.size + 1) 9 i0 (.string ⟨#[]⟩) 1 16 Tryz.underlying33 hi0 hz0 hz1 hz2 rfl (by decide) _ ss.length (ss.map encStr) rfl (hrow2.alloc _) _ (some ⟨w2.heap.size, 0, none⟩) 1 1 [encStr x] rfl (reads_of_row (row_newc w2 _ 9 (by simp)) rfl (by decide)) (by intro u hu; simp at hu; subst hu; rfl) (by unfold maxLen; omega) (by omega) (by have := HBX2.out.size; have := HRL.out; simp; omega) ?_; intro v' w3 hown' hg3 halt)
     have hrg3 := (hrg2.alloc (.cells #[encStr x] 9)).kept hg3 (row_ne_low hrow2 HMD.out) (row_ne_iter hrow2 hrg2)
     have HB3 := Lib.hid ((HBX2.out.alloc HBX2.out.size (.cells #[encStr x] 9)).grown hg3 (by have := HBX2.out.size; simp; omega) (fun k hk => by have := own_lt hrow2 k hk; omega))
     have HR3 := Lib.hid hrg3
     have HO3 : Hid (w3.ownsRow (w.heap.size + 1) 9 1 v' (ss ++ [x]).length ((ss ++ [x]).map encStr)) := Lib.hid (by rw [List.length_append, List.map_append]; exact hown')
     have HL3 := Lib.hid (show (ss ++ [x]).length + cnt2 ≤ Maps.size D by rw [List.length_append]; exact HCT.out)
     have HME := Lib.hid (show w3.rangeLeft mb r < xr.rangeLeft mb r by rw [hrg3.left_eq, HRG.out.left_eq]; exact HLT.out)
     clear hrg3 hrg2 hown' hg3 halt hrow2 hen
     go_wp2
     go_roundw
     case rel => exact ⟨_, cnt2, ss ++ [x], HR3, HL3, HO3.out, HC2, HB3⟩
     case measure => exact HME.out
end Go.Proofs.YtiohmnhbmmhnhaaGreatDoor
namespace Go.Proofs.YtiohmnhbmmhnhaaGreatDoor
open Go.RowKit Go.Shelf Go.Lib
theorem suffix_snoc (l : List UInt8) (a : UInt8) : Lib.hasSuffix (l ++ [a]) [47] = decide (a = 47) := by
 unfold Lib.hasSuffix
 rw [Bool.eq_iff_iff]
 simp only [List.isSuffixOf_iff_suffix, decide_eq_true_eq]
 constructor
 ·rintro ⟨t, ht⟩
  have := List.append_inj' ht rfl
  exact (List.singleton_inj.1 this.2).symm
 ·rintro rfl
  exact ⟨l, rfl⟩
theorem ends_slash (s : ByteArray) : Lib.hasSuffix s.data.toList [47] = decide (0 < s.size ∧ bt s (s.size - 1) = 47) := by
 have hz := size_eq s
 rcases List.eq_nil_or_concat s.data.toList with h | ⟨l, a, h⟩
 ·rw [h] at hz ⊢
  rw [decide_eq_false (by rw [← hz]; simp)]
  rfl
 ·rw [List.concat_eq_append] at h
  rw [h, suffix_snoc]
  rw [h, List.length_append] at hz
  have hz2 : s.size - 1 = l.length := by rw [← hz]; simp
  have hb : bt s (s.size - 1) = (a.toNat : Int) := by
   unfold bt
   rw [h, hz2, List.getD_eq_getElem?_getD, List.getElem?_append_right (Nat.le_refl _), Nat.sub_self]
   rfl
  rw [hb]
  by_cases e : a = 47
  ·subst e
   rw [decide_eq_true rfl, decide_eq_true ⟨by rw [← hz]; simp, rfl⟩]
  ·rw [decide_eq_false e, decide_eq_false]
   rintro ⟨_, h2⟩
   exact e (UInt8.toNat_inj.1 (by have : (a.toNat : Int) = ((47 : UInt8).toNat : Int) := h2; omega))
theorem other_yes {s : ByteArray} (h : 0 < s.size ∧ bt s (s.size - 1) = 47) : otherP s = s.extract 0 (s.size - 1) := if_pos h
theorem other_no {s : ByteArray} (h : ¬ (0 < s.size ∧ bt s (s.size - 1) = 47)) : otherP s = s ++ (⟨#[47]⟩ : ByteArray) := if_neg h
theorem otherP_size (s : ByteArray) : (otherP s).size ≤ s.size + 1 := by
 unfold otherP
 split
 ·rename_i h
  rw [ext_size s (by omega) (by omega)]
  omega
 ·rw [ByteArray.size_append]
  exact Nat.le_refl _
theorem trim_slash {s : ByteArray} (h : 0 < s.size ∧ bt s (s.size - 1) = 47) : (⟨(Lib.trimSuffix s.data.toList [47]).toArray⟩ : ByteArray) = otherP s := by
 rw [other_yes h]
 apply bytes_ext
 rw [ext_front]
 unfold Lib.trimSuffix
 rw [ends_slash, if_pos (decide_eq_true h), size_eq]
 rfl
set_option maxRecDepth 20000 in
theorem other_any (s : ByteArray) (w : World) (hs : s.size ≤ 4194304) :
  Calls Tryz.prog 46 #[.string s] w fun e w' => e = .returned (.string (otherP s)) ∧ w = w' := by
 have HC := Lib.hid (Tryz.strings_CutSuffix s ⟨#[47]⟩ w (by omega))
 have he := ends_slash s
 have h47 : (⟨#[47]⟩ : ByteArray).data.toList = [47] := rfl
 rw [h47] at HC
 by_cases h : 0 < s.size ∧ bt s (s.size - 1) = 47
 ·have HV := Lib.hid (trim_slash h)
  rw [he, decide_eq_true h] at HC
  obtain ⟨ts, hts⟩ : ∃ ts : ByteArray, ts = ⟨(Lib.trimSuffix s.data.toList [47]).toArray⟩ := ⟨_, rfl⟩
  rw [← hts] at HC HV
  clear he h hts h47
  go_enter Tryz.func46, Tryz.ntmps46
  go_wp2_with fail
  refine HC.out.mono ?_
  rintro e w' ⟨rfl, rfl⟩
  go_wp2
  go_ret
  exact ⟨by rw [HV.out]; rfl, rfl⟩
 ·have HV := Lib.hid (other_no h)
  rw [he, decide_eq_false h] at HC
  obtain ⟨ts, hts⟩ : ∃ ts : ByteArray, ts = ⟨(Lib.trimSuffix s.data.toList [47]).toArray⟩ := ⟨_, rfl⟩
  rw [← hts] at HC
  clear he h hts h47
  go_enter Tryz.func46, Tryz.ntmps46
  go_wp2_with fail
  refine HC.out.mono ?_
  rintro e w' ⟨rfl, rfl⟩
  go_wp2
  go_ret
  exact ⟨by rw [HV.out]; rfl, rfl⟩
theorem Segments_any (s : ByteArray) (w : World) (hs : s.size ≤ 4194304) (hg : GlobR w) : Calls Tryz.prog 45 #[.string s] w (GivesSegs w (segR s)) := by
 cases hp : isPathB s
 ·exact Segments_no s w hs hp
 ·exact Segments_yes s w hs hg.g hp
structure Mt where
 kind : Int
 route : Int
 pat : ByteArray
 par : List Prm
 allow : List ByteArray
 dest : ByteArray
def mNone : Mt := ⟨0, -1, ⟨#[]⟩, [], [], ⟨#[]⟩⟩
def matchF (l : List Rt) (sl : Bool) (method path : ByteArray) (o : Option ByteArray) : Mt := match o with
 | none => if (segR path).2 = 0 ∧ sl = true then (match patR l (otherP path) with
  | some _ => ⟨4, -1, ⟨#[]⟩, [], [], otherP path⟩
  | none => mNone) else mNone
 | some p => if 0 ≤ foundP l (plc p l) method then ⟨1, foundP l (plc p l) method, p, parP p path, [], ⟨#[]⟩⟩
  else ⟨if method = mOpt then 3 else 2, foundP l (plc p l) method, p, parP p path, allowOf l (fun r : Rt => decide (r.2 = p)), ⟨#[]⟩⟩
def matchP (l : List Rt) (sl : Bool) (method path : ByteArray) : Mt := matchF l sl method path (patR l path)
def GivesMt (w : World) (m : Mt) (e : Ending) (w' : World) : Prop :=
 ∃ PA pc AA ac, e = .returned (.agg #[.int .i64 m.kind, .int .i64 m.route, .string m.pat, .slice PA m.par.length pc, .slice AA m.allow.length ac, .string m.dest]) ∧
  w'.ownsRow w.heap.size 68 3 (.slice PA m.par.length pc) m.par.length (flat3 m.par) ∧
  w'.ownsRow w.heap.size 9 1 (.slice AA m.allow.length ac) m.allow.length (m.allow.map .string) ∧ Below w.heap.size w w'
theorem pat_plc {l : List Rt} {path p : ByteArray} (h : patR l path = some p) : 0 < (plc p l).length := by
 obtain ⟨h1, _⟩ := pat_some h
 obtain ⟨r, hr, rfl⟩ := List.mem_map.1 h1
 obtain ⟨k, hk, rfl⟩ := List.getElem_of_mem hr
 have : k ∈ plc l[k].2 l := places_mem.2 ⟨Nat.zero_le _, l[k], List.getElem?_eq_getElem hk, decide_eq_true rfl⟩
 exact List.length_pos_of_mem this
theorem plc_lt {l : List Rt} {p : ByteArray} : ∀ n ∈ plc p l, n < l.length := fun n hn => by
 obtain ⟨_, y, hy, _⟩ := places_mem.1 hn
 rw [Nat.sub_zero] at hy
 exact lt_of_some hy
set_option maxRecDepth 20000 in
theorem Allow_any (t : Nat) (sl : Bool) (l : List Rt) (path : ByteArray) (w : World) (hT : TableAt w t sl l) (hp : path.size ≤ 4194304) (hg : GlobR w) :
  Calls Tryz.prog 24 #[.pointer (some ⟨t, 0, none⟩), .string path] w (GivesTx w (match patR l path with | some p => allowOf l (fun r : Rt => decide (r.2 = p)) | none => [])) := by
 have HA := Lib.hid (at_any t sl l path w w hT (Below.refl _ _) hp hg)
 have HT := Lib.hid hT
 have hpp := @pat_plc l path
 generalize patR l path = o at *
 clear hT hg
 go_enter Tryz.func24, Tryz.ntmps24
 go_wp2_with fail
 refine HA.out.mono ?_
 rintro e w1 (⟨rfl, rfl, hb⟩ | ⟨p, NA, nc, PA, pc, rfl, rfl, hN, ho, hb⟩)
 ·clear hpp
  go_wp2
  go_ret
  exact ⟨none, 0, rfl, World.ownsRow_nil _ _ _ _, hb⟩
 ·have hpos := hpp rfl
  have hz : (((plc p l).length : Int) == 0) = false := beq_eq_false_iff_ne.2 (by omega)
  have HM := Lib.hid (methods_any t sl l NA nc (fun r : Rt => decide (r.2 = p)) w1 (HT.out.below hb) (hN.below hb))
  have e2 : placesOf (fun r : Rt => decide (r.2 = p)) l 0 = plc p l := rfl
  rw [e2] at HM
  generalize plc p l = ns at *
  obtain ⟨out, hout⟩ : ∃ out, allowOf l (fun r : Rt => decide (r.2 = p)) = out := ⟨_, rfl⟩
  rw [hout] at HM
  have HO := Lib.hid hout
  clear hout hpp ho hN HA HT e2 hpos
  go_wp2_with fail
  refine HM.out.mono ?_
  rintro e w2 ⟨A2, c2, rfl, ho2, hb2⟩
  go_wp2
  go_ret
  show GivesTx w (allowOf l (fun r : Rt => decide (r.2 = p))) _ _
  rw [HO.out]
  exact ⟨A2, c2, rfl, ho2.mono hb.size, hb.trans (hb2.mono hb.size)⟩
set_option maxRecDepth 20000 in
theorem Len_nil (w : World) : Calls Tryz.prog 30 #[.pointer none] w fun e w' => e = .returned (.int .i64 0) ∧ w = w' := by
 go_enter Tryz.func30, Tryz.ntmps30
 go_wp2
 go_ret
 exact ⟨rfl, rfl⟩
set_option maxRecDepth 20000 in
theorem rtLen_any (t : Nat) (sl : Bool) (l : List Rt) (w : World) (hT : TableAt w t sl l) : Calls Tryz.prog 30 #[.pointer (some ⟨t, 0, none⟩)] w fun e w' => e = .returned (.int .i64 (l.length : Nat)) ∧ w = w' := by
 obtain ⟨q, es, S, A, c, rs, h⟩ := hT
 have q1 := h.c1
 have HL := Lib.hid (show l.length = rs.length by rw [← h.pl, plA_length])
 clear h
 go_enter Tryz.func30, Tryz.ntmps30
 go_wp2
 go_ret
 exact ⟨ret_int (by rw [HL.out]), rfl⟩
end Go.Proofs.YtiohmnhbmmhnhaaGreatDoor
namespace Go.Proofs.YtiohmnhbmmhnhaaGreatDoor
open Go.RowKit Go.Shelf Go.Lib
theorem opt_test (m : ByteArray) : (m.toList == [79, 80, 84, 73, 79, 78, 83]) = decide (m = mOpt) := by rw [← eq_str]; rw [show mOpt.toList = [79, 80, 84, 73, 79, 78, 83] by decide +kernel]
theorem matchF_no {l : List Rt} {sl : Bool} {m path : ByteArray} (h : ¬ ((segR path).2 = 0 ∧ sl = true)) : matchF l sl m path none = mNone := if_neg h
theorem matchF_near {l : List Rt} {sl : Bool} {m path : ByteArray} (h : (segR path).2 = 0 ∧ sl = true) : matchF l sl m path none = match patR l (otherP path) with
  | some _ => ⟨4, -1, ⟨#[]⟩, [], [], otherP path⟩
  | none => mNone := if_pos h
theorem matchF_found {l : List Rt} {sl : Bool} {m path p : ByteArray} (h : 0 ≤ foundP l (plc p l) m) : matchF l sl m path (some p) = ⟨1, foundP l (plc p l) m, p, parP p path, [], ⟨#[]⟩⟩ := if_pos h
theorem matchF_allow {l : List Rt} {sl : Bool} {m path p : ByteArray} (h : ¬ 0 ≤ foundP l (plc p l) m) : matchF l sl m path (some p) = ⟨if m = mOpt then 3 else 2, foundP l (plc p l) m, p, parP p path, allowOf l (fun r : Rt => decide (r.2 = p)), ⟨#[]⟩⟩ := if_neg h
theorem gives_mNone {w w' : World} {m : Mt} (h : m = mNone) (hb : Below w.heap.size w w') : GivesMt w m (.returned (.agg #[.int .i64 0, .int .i64 (-1), .string ⟨#[]⟩, .slice none 0 0, .slice none 0 0, .string ⟨#[]⟩])) w' := by
 subst h
 exact ⟨none, 0, none, 0, rfl, World.ownsRow_nil _ _ _ _, World.ownsRow_nil _ _ _ _, hb⟩
theorem gives_near {w w' : World} {m : Mt} {d : ByteArray} (h : m = ⟨4, -1, ⟨#[]⟩, [], [], d⟩) (hb : Below w.heap.size w w') : GivesMt w m (.returned (.agg #[.int .i64 4, .int .i64 (-1), .string ⟨#[]⟩, .slice none 0 0, .slice none 0 0, .string d])) w' := by
 subst h
 exact ⟨none, 0, none, 0, rfl, World.ownsRow_nil _ _ _ _, World.ownsRow_nil _ _ _ _, hb⟩
theorem gives_found {w w' : World} {m : Mt} {r : Int} {p : ByteArray} {ps : List Prm} {PA : Option Addr} {pc : Nat} (h : m = ⟨1, r, p, ps, [], ⟨#[]⟩⟩) (ho : w'.ownsRow w.heap.size 68 3 (.slice PA ps.length pc) ps.length (flat3 ps)) (hb : Below w.heap.size w w') :
  GivesMt w m (.returned (.agg #[.int .i64 1, .int .i64 r, .string p, .slice PA ps.length pc, .slice none 0 0, .string ⟨#[]⟩])) w' := by
 subst h
 exact ⟨PA, pc, none, 0, rfl, ho, World.ownsRow_nil _ _ _ _, hb⟩
theorem gives_allow {w w' : World} {m : Mt} {k r : Int} {p : ByteArray} {ps : List Prm} {al : List ByteArray} {PA AA : Option Addr} {pc ac : Nat} (h : m = ⟨k, r, p, ps, al, ⟨#[]⟩⟩) (ho : w'.ownsRow w.heap.size 68 3 (.slice PA ps.length pc) ps.length (flat3 ps)) (ha : w'.ownsRow w.heap.size 9 1 (.slice AA al.length ac) al.length (al.map .string)) (hb : Below w.heap.size w w') :
  GivesMt w m (.returned (.agg #[.int .i64 k, .int .i64 r, .string p, .slice PA ps.length pc, .slice AA al.length ac, .string ⟨#[]⟩])) w' := by
 subst h
 exact ⟨PA, pc, AA, ac, rfl, ho, ha, hb⟩
set_option maxRecDepth 100000 in
set_option maxHeartbeats 8000000 in
theorem Match_any (t : Nat) (sl : Bool) (l : List Rt) (m path : ByteArray) (w : World) (hT : TableAt w t sl l) (hp : path.size ≤ 4194303) (hg : GlobR w) :
  Calls Tryz.prog 18 #[.pointer (some ⟨t, 0, none⟩), .string m, .string path] w (GivesMt w (matchP l sl m path)) := by
 have hbW : Below w.heap.size w ((w.alloc (.cells #[.int .i64 0, .int .i64 0, .string ⟨#[]⟩, .slice none 0 0, .slice none 0 0, .string ⟨#[]⟩] 47)).alloc (.cells #[.int .i64 0, .int .i64 (-1), .string ⟨#[]⟩, .slice none 0 0, .slice none 0 0, .string ⟨#[]⟩] 47)) := ((Below.refl _ w).alloc (Nat.le_refl _) _).alloc (by simp) _
 have hbZ : Blk ((w.alloc (.cells #[.int .i64 0, .int .i64 0, .string ⟨#[]⟩, .slice none 0 0, .slice none 0 0, .string ⟨#[]⟩] 47)).alloc (.cells #[.int .i64 0, .int .i64 (-1), .string ⟨#[]⟩, .slice none 0 0, .slice none 0 0, .string ⟨#[]⟩] 47)) w.heap.size 47 #[.int .i64 0, .int .i64 0, .string ⟨#[]⟩, .slice none 0 0, .slice none 0 0, .string ⟨#[]⟩] := (Blk.new w _ _).alloc _
 have hbO : Blk ((w.alloc (.cells #[.int .i64 0, .int .i64 0, .string ⟨#[]⟩, .slice none 0 0, .slice none 0 0, .string ⟨#[]⟩] 47)).alloc (.cells #[.int .i64 0, .int .i64 (-1), .string ⟨#[]⟩, .slice none 0 0, .slice none 0 0, .string ⟨#[]⟩] 47)) (w.heap.size + 1) 47 #[.int .i64 0, .int .i64 (-1), .string ⟨#[]⟩, .slice none 0 0, .slice none 0 0, .string ⟨#[]⟩] := by
  have := Blk.new (w.alloc (.cells #[.int .i64 0, .int .i64 0, .string ⟨#[]⟩, .slice none 0 0, .slice none 0 0, .string ⟨#[]⟩] 47)) 47 #[.int .i64 0, .int .i64 (-1), .string ⟨#[]⟩, .slice none 0 0, .slice none 0 0, .string ⟨#[]⟩]
  simpa using this
 have hwz : ((w.alloc (.cells #[.int .i64 0, .int .i64 0, .string ⟨#[]⟩, .slice none 0 0, .slice none 0 0, .string ⟨#[]⟩] 47)).alloc (.cells #[.int .i64 0, .int .i64 (-1), .string ⟨#[]⟩, .slice none 0 0, .slice none 0 0, .string ⟨#[]⟩] 47)).heap.size = w.heap.size + 2 := by simp
 have HT := Lib.hid (fun (W : World) (h : Below w.heap.size w W) => hT.below h)
 have HG := Lib.hid (fun (W : World) (h : Below w.heap.size w W) => hg.beyond h)
 have HAT := Lib.hid (fun (W : World) (h : Below w.heap.size w W) => at_any t sl l path w W hT h (by omega) (hg.beyond h))
 have HAO := Lib.hid (fun (W : World) (h : Below w.heap.size w W) => at_any t sl l (otherP path) w W hT h (by have := otherP_size path; omega) (hg.beyond h))
 have HOT := Lib.hid (fun (W : World) => other_any path W (by omega))
 have HSG := Lib.hid (fun (W : World) (h : Below w.heap.size w W) => Segments_any path W (by omega) (hg.beyond h))
 have HSL := Lib.hid (show ∀ W : World, Below w.heap.size w W → W.cell? ⟨t, 2, none⟩ = some (.bool sl) ∧ t < W.heap.size from fun W h => by
  obtain ⟨_, _, _, _, _, _, h2⟩ := hT.below h
  exact ⟨h2.c2, h2.low⟩)
 have hpp := @pat_plc l path
 have HN0 := Lib.hid (matchF_no (l := l) (sl := sl) (m := m) (path := path))
 have HN1 := Lib.hid (matchF_near (l := l) (sl := sl) (m := m) (path := path))
 have HFO := Lib.hid (fun p => matchF_found (l := l) (sl := sl) (m := m) (path := path) (p := p))
 have HFA := Lib.hid (fun p => matchF_allow (l := l) (sl := sl) (m := m) (path := path) (p := p))
 obtain ⟨res, hres⟩ : ∃ res, matchP l sl m path = res := ⟨_, rfl⟩
 rw [hres]
 unfold matchP at hres
 have hoq := @pat_plc l (otherP path)
 generalize patR l path = o at *
 generalize patR l (otherP path) = oo at *
 have HRES := Lib.hid hres
 have HWZ := Lib.hid hwz
 clear hT hg hres hwz
 go_enter Tryz.func18, Tryz.ntmps18
 go_wp2_with fail
 obtain ⟨rb, hrb⟩ : ∃ rb : Nat, rb = w.heap.size := ⟨_, rfl⟩
 have HRB := Lib.hid hrb
 obtain ⟨W2, hW2⟩ : ∃ W2 : World, W2 = (w.alloc (.cells #[.int .i64 0, .int .i64 0, .string ⟨#[]⟩, .slice none 0 0, .slice none 0 0, .string ⟨#[]⟩] 47)).alloc (.cells #[.int .i64 0, .int .i64 (-1), .string ⟨#[]⟩, .slice none 0 0, .slice none 0 0, .string ⟨#[]⟩] 47) := ⟨_, rfl⟩
 rw [← hW2] at hbW hbZ hbO HWZ
 rw [← hrb] at hbZ hbO
 rw [← hW2, ← hrb]
 have HBW := Lib.hid hbW
 have HBZ := Lib.hid hbZ
 have HBO := Lib.hid hbO
 have hle : w.heap.size ≤ rb := by omega
 clear hbW hbZ hbO hW2 hrb
 refine (HAT.out W2 HBW.out).mono ?_
 rintro e w3 (⟨rfl, rfl, hb⟩ | ⟨p, NA, nc, PA, pc, rfl, rfl, hN, ho, hb⟩)
 ·have HBB := Lib.hid (HBW.out.trans (hb.mono HBW.out.size))
  have HB := Lib.hid hb
  clear hb hpp HFO HFA
  go_wp2_with fail
  refine (HSG.out w3 HBB.out).mono ?_
  rintro e w4 ⟨SA, sc, rfl, hos, hb4⟩
  have HBC := Lib.hid (HB.out.trans (hb4.mono HB.out.size))
  have HBD := Lib.hid (HBB.out.trans (hb4.mono HBB.out.size))
  have HZ4 := Lib.hid (HBZ.out.below HBC.out HBZ.out.lt)
  have HO4 := Lib.hid (HBO.out.below HBC.out HBO.out.lt)
  obtain ⟨sg, hsg⟩ : ∃ sg, (segR path).2 = sg := ⟨_, rfl⟩
  have HSE := Lib.hid hsg
  rw [hsg] at HN0 HN1
  rw [hsg]
  clear hos hb4 HSG HAT hsg HBB HB
  by_cases hs0 : sg = 0
  ·by_cases hsl : sl = true
   ·subst hs0
    subst hsl
    have HRE := Lib.hid (HRES.out.symm.trans (HN1.out ⟨rfl, rfl⟩))
    obtain ⟨hc2, htl⟩ := HSL.out w4 HBD.out
    clear HN0 HN1 HRES
    go_wp2_with fail
    refine (HOT.out w4).mono ?_
    rintro e w5 ⟨rfl, rfl⟩
    go_wp2_with fail
    refine (HAO.out w4 HBD.out).mono ?_
    rintro e w5 (⟨rfl, rfl, hb5⟩ | ⟨p, NA, nc, PA, pc, rfl, rfl, hN, ho, hb5⟩)
    ·have HB5 := Lib.hid (HBC.out.trans (hb5.mono HBC.out.size))
     have HBB := Lib.hid (HBD.out.trans (hb5.mono HBD.out.size))
     have hZ5 := HBZ.out.below HB5.out HBZ.out.lt
     have hO5 := HBO.out.below HB5.out HBO.out.lt
     have hrz : rb < w5.heap.size := hZ5.lt
     have hro : rb + 1 < w5.heap.size := hO5.lt
     have z0 : w5.cell? ⟨rb, 0, none⟩ = some (.int .i64 0) := hZ5.cell 0
     have z1 : w5.cell? ⟨rb, 1, none⟩ = some (.int .i64 0) := hZ5.cell 1
     have z2 : w5.cell? ⟨rb, 2, none⟩ = some (.string ⟨#[]⟩) := hZ5.cell 2
     have z3 : w5.cell? ⟨rb, 3, none⟩ = some (.slice none 0 0) := hZ5.cell 3
     have z4 : w5.cell? ⟨rb, 4, none⟩ = some (.slice none 0 0) := hZ5.cell 4
     have z5 : w5.cell? ⟨rb, 5, none⟩ = some (.string ⟨#[]⟩) := hZ5.cell 5
     have y0 : w5.frozen? ⟨rb, 0, none⟩ = false := hZ5.frozen 0
     have y1 : w5.frozen? ⟨rb, 1, none⟩ = false := hZ5.frozen 1
     have y2 : w5.frozen? ⟨rb, 2, none⟩ = false := hZ5.frozen 2
     have y3 : w5.frozen? ⟨rb, 3, none⟩ = false := hZ5.frozen 3
     have y4 : w5.frozen? ⟨rb, 4, none⟩ = false := hZ5.frozen 4
     have y5 : w5.frozen? ⟨rb, 5, none⟩ = false := hZ5.frozen 5
     have o0 : w5.cell? ⟨rb + 1, 0, none⟩ = some (.int .i64 0) := hO5.cell 0
     have o1 : w5.cell? ⟨rb + 1, 1, none⟩ = some (.int .i64 (-1)) := hO5.cell 1
     have o2 : w5.cell? ⟨rb + 1, 2, none⟩ = some (.string ⟨#[]⟩) := hO5.cell 2
     have o3 : w5.cell? ⟨rb + 1, 3, none⟩ = some (.slice none 0 0) := hO5.cell 3
     have o4 : w5.cell? ⟨rb + 1, 4, none⟩ = some (.slice none 0 0) := hO5.cell 4
     have o5 : w5.cell? ⟨rb + 1, 5, none⟩ = some (.string ⟨#[]⟩) := hO5.cell 5
     have x0 : w5.frozen? ⟨rb + 1, 0, none⟩ = false := hO5.frozen 0
     have x1 : w5.frozen? ⟨rb + 1, 1, none⟩ = false := hO5.frozen 1
     have x2 : w5.frozen? ⟨rb + 1, 2, none⟩ = false := hO5.frozen 2
     have x3 : w5.frozen? ⟨rb + 1, 3, none⟩ = false := hO5.frozen 3
     have x4 : w5.frozen? ⟨rb + 1, 4, none⟩ = false := hO5.frozen 4
     have x5 : w5.frozen? ⟨rb + 1, 5, none⟩ = false := hO5.frozen 5
     clear hZ5 hO5 hb5 hc2 htl HBC HBD HAO HOT HSL HZ4 HO4
     go_wp2
     exact bodyPost_ret (v := .agg #[.int .i64 0, .int .i64 (-1), .string ⟨#[]⟩, .slice none 0 0, .slice none 0 0, .string ⟨#[]⟩]) (by simp [results, Tryz.results18, go_sem, z0, z1, z2, z3, z4, z5]) rfl (gives_mNone HRE.out (by (repeat (first | (refine Below.setCell ?_ hle _) | (refine Below.setCell ?_ (Nat.le_succ_of_le hle) _))); exact HBB.out))
    ·have hpos := hoq rfl
     have hz : decide (0 < (plc p l).length) = true := decide_eq_true hpos
     generalize (plc p l).length = npl at *
     have HB5 := Lib.hid (HBC.out.trans (hb5.mono HBC.out.size))
     have HBB := Lib.hid (HBD.out.trans (hb5.mono HBD.out.size))
     have hZ5 := HBZ.out.below HB5.out HBZ.out.lt
     have hO5 := HBO.out.below HB5.out HBO.out.lt
     have hrz : rb < w5.heap.size := hZ5.lt
     have hro : rb + 1 < w5.heap.size := hO5.lt
     have z0 : w5.cell? ⟨rb, 0, none⟩ = some (.int .i64 0) := hZ5.cell 0
     have z1 : w5.cell? ⟨rb, 1, none⟩ = some (.int .i64 0) := hZ5.cell 1
     have z2 : w5.cell? ⟨rb, 2, none⟩ = some (.string ⟨#[]⟩) := hZ5.cell 2
     have z3 : w5.cell? ⟨rb, 3, none⟩ = some (.slice none 0 0) := hZ5.cell 3
     have z4 : w5.cell? ⟨rb, 4, none⟩ = some (.slice none 0 0) := hZ5.cell 4
     have z5 : w5.cell? ⟨rb, 5, none⟩ = some (.string ⟨#[]⟩) := hZ5.cell 5
     have y0 : w5.frozen? ⟨rb, 0, none⟩ = false := hZ5.frozen 0
     have y1 : w5.frozen? ⟨rb, 1, none⟩ = false := hZ5.frozen 1
     have y2 : w5.frozen? ⟨rb, 2, none⟩ = false := hZ5.frozen 2
     have y3 : w5.frozen? ⟨rb, 3, none⟩ = false := hZ5.frozen 3
     have y4 : w5.frozen? ⟨rb, 4, none⟩ = false := hZ5.frozen 4
     have y5 : w5.frozen? ⟨rb, 5, none⟩ = false := hZ5.frozen 5
     have o0 : w5.cell? ⟨rb + 1, 0, none⟩ = some (.int .i64 0) := hO5.cell 0
     have o1 : w5.cell? ⟨rb + 1, 1, none⟩ = some (.int .i64 (-1)) := hO5.cell 1
     have o2 : w5.cell? ⟨rb + 1, 2, none⟩ = some (.string ⟨#[]⟩) := hO5.cell 2
     have o3 : w5.cell? ⟨rb + 1, 3, none⟩ = some (.slice none 0 0) := hO5.cell 3
     have o4 : w5.cell? ⟨rb + 1, 4, none⟩ = some (.slice none 0 0) := hO5.cell 4
     have o5 : w5.cell? ⟨rb + 1, 5, none⟩ = some (.string ⟨#[]⟩) := hO5.cell 5
     have x0 : w5.frozen? ⟨rb + 1, 0, none⟩ = false := hO5.frozen 0
     have x1 : w5.frozen? ⟨rb + 1, 1, none⟩ = false := hO5.frozen 1
     have x2 : w5.frozen? ⟨rb + 1, 2, none⟩ = false := hO5.frozen 2
     have x3 : w5.frozen? ⟨rb + 1, 3, none⟩ = false := hO5.frozen 3
     have x4 : w5.frozen? ⟨rb + 1, 4, none⟩ = false := hO5.frozen 4
     have x5 : w5.frozen? ⟨rb + 1, 5, none⟩ = false := hO5.frozen 5
     clear hZ5 hO5 hb5 hc2 htl HBC HBD HAO HSL HZ4 HO4 hN ho hoq
     go_wp2_with fail
     refine (HOT.out w5).mono ?_
     rintro e w6 ⟨rfl, rfl⟩
     go_wp2
     exact bodyPost_ret (v := .agg #[.int .i64 4, .int .i64 (-1), .string ⟨#[]⟩, .slice none 0 0, .slice none 0 0, .string (otherP path)]) (by simp [results, Tryz.results18, go_sem, z0, z1, z2, z3, z4, z5]) rfl (gives_near HRE.out (by (repeat (first | (refine Below.setCell ?_ hle _) | (refine Below.setCell ?_ (Nat.le_succ_of_le hle) _))); exact HBB.out))
   ·obtain rfl : sl = false := by simpa using hsl
    have HRE := Lib.hid (HRES.out.symm.trans (HN0.out (fun h => by cases h.2)))
    obtain ⟨hc2, htl⟩ := HSL.out w4 HBD.out
    subst hs0
    have HBB := HBD
    have hrz : rb < w4.heap.size := HZ4.out.lt
    have hro : rb + 1 < w4.heap.size := HO4.out.lt
    have z0 : w4.cell? ⟨rb, 0, none⟩ = some (.int .i64 0) := HZ4.out.cell 0
    have z1 : w4.cell? ⟨rb, 1, none⟩ = some (.int .i64 0) := HZ4.out.cell 1
    have z2 : w4.cell? ⟨rb, 2, none⟩ = some (.string ⟨#[]⟩) := HZ4.out.cell 2
    have z3 : w4.cell? ⟨rb, 3, none⟩ = some (.slice none 0 0) := HZ4.out.cell 3
    have z4 : w4.cell? ⟨rb, 4, none⟩ = some (.slice none 0 0) := HZ4.out.cell 4
    have z5 : w4.cell? ⟨rb, 5, none⟩ = some (.string ⟨#[]⟩) := HZ4.out.cell 5
    have y0 : w4.frozen? ⟨rb, 0, none⟩ = false := HZ4.out.frozen 0
    have y1 : w4.frozen? ⟨rb, 1, none⟩ = false := HZ4.out.frozen 1
    have y2 : w4.frozen? ⟨rb, 2, none⟩ = false := HZ4.out.frozen 2
    have y3 : w4.frozen? ⟨rb, 3, none⟩ = false := HZ4.out.frozen 3
    have y4 : w4.frozen? ⟨rb, 4, none⟩ = false := HZ4.out.frozen 4
    have y5 : w4.frozen? ⟨rb, 5, none⟩ = false := HZ4.out.frozen 5
    have o0 : w4.cell? ⟨rb + 1, 0, none⟩ = some (.int .i64 0) := HO4.out.cell 0
    have o1 : w4.cell? ⟨rb + 1, 1, none⟩ = some (.int .i64 (-1)) := HO4.out.cell 1
    have o2 : w4.cell? ⟨rb + 1, 2, none⟩ = some (.string ⟨#[]⟩) := HO4.out.cell 2
    have o3 : w4.cell? ⟨rb + 1, 3, none⟩ = some (.slice none 0 0) := HO4.out.cell 3
    have o4 : w4.cell? ⟨rb + 1, 4, none⟩ = some (.slice none 0 0) := HO4.out.cell 4
    have o5 : w4.cell? ⟨rb + 1, 5, none⟩ = some (.string ⟨#[]⟩) := HO4.out.cell 5
    have x0 : w4.frozen? ⟨rb + 1, 0, none⟩ = false := HO4.out.frozen 0
    have x1 : w4.frozen? ⟨rb + 1, 1, none⟩ = false := HO4.out.frozen 1
    have x2 : w4.frozen? ⟨rb + 1, 2, none⟩ = false := HO4.out.frozen 2
    have x3 : w4.frozen? ⟨rb + 1, 3, none⟩ = false := HO4.out.frozen 3
    have x4 : w4.frozen? ⟨rb + 1, 4, none⟩ = false := HO4.out.frozen 4
    have x5 : w4.frozen? ⟨rb + 1, 5, none⟩ = false := HO4.out.frozen 5
    clear HN0 HN1 HRES hsl
    go_wp2
    exact bodyPost_ret (v := .agg #[.int .i64 0, .int .i64 (-1), .string ⟨#[]⟩, .slice none 0 0, .slice none 0 0, .string ⟨#[]⟩]) (by simp [results, Tryz.results18, go_sem, z0, z1, z2, z3, z4, z5]) rfl (gives_mNone HRE.out (by (repeat (first | (refine Below.setCell ?_ hle _) | (refine Below.setCell ?_ (Nat.le_succ_of_le hle) _))); exact HBB.out))
  ·have HRE := Lib.hid (HRES.out.symm.trans (HN0.out (fun h => hs0 h.1)))
   have hsn : (sg != 0) = true := by simpa using hs0
   have HBB := HBD
   have hrz : rb < w4.heap.size := HZ4.out.lt
   have hro : rb + 1 < w4.heap.size := HO4.out.lt
   have z0 : w4.cell? ⟨rb, 0, none⟩ = some (.int .i64 0) := HZ4.out.cell 0
   have z1 : w4.cell? ⟨rb, 1, none⟩ = some (.int .i64 0) := HZ4.out.cell 1
   have z2 : w4.cell? ⟨rb, 2, none⟩ = some (.string ⟨#[]⟩) := HZ4.out.cell 2
   have z3 : w4.cell? ⟨rb, 3, none⟩ = some (.slice none 0 0) := HZ4.out.cell 3
   have z4 : w4.cell? ⟨rb, 4, none⟩ = some (.slice none 0 0) := HZ4.out.cell 4
   have z5 : w4.cell? ⟨rb, 5, none⟩ = some (.string ⟨#[]⟩) := HZ4.out.cell 5
   have y0 : w4.frozen? ⟨rb, 0, none⟩ = false := HZ4.out.frozen 0
   have y1 : w4.frozen? ⟨rb, 1, none⟩ = false := HZ4.out.frozen 1
   have y2 : w4.frozen? ⟨rb, 2, none⟩ = false := HZ4.out.frozen 2
   have y3 : w4.frozen? ⟨rb, 3, none⟩ = false := HZ4.out.frozen 3
   have y4 : w4.frozen? ⟨rb, 4, none⟩ = false := HZ4.out.frozen 4
   have y5 : w4.frozen? ⟨rb, 5, none⟩ = false := HZ4.out.frozen 5
   have o0 : w4.cell? ⟨rb + 1, 0, none⟩ = some (.int .i64 0) := HO4.out.cell 0
   have o1 : w4.cell? ⟨rb + 1, 1, none⟩ = some (.int .i64 (-1)) := HO4.out.cell 1
   have o2 : w4.cell? ⟨rb + 1, 2, none⟩ = some (.string ⟨#[]⟩) := HO4.out.cell 2
   have o3 : w4.cell? ⟨rb + 1, 3, none⟩ = some (.slice none 0 0) := HO4.out.cell 3
   have o4 : w4.cell? ⟨rb + 1, 4, none⟩ = some (.slice none 0 0) := HO4.out.cell 4
   have o5 : w4.cell? ⟨rb + 1, 5, none⟩ = some (.string ⟨#[]⟩) := HO4.out.cell 5
   have x0 : w4.frozen? ⟨rb + 1, 0, none⟩ = false := HO4.out.frozen 0
   have x1 : w4.frozen? ⟨rb + 1, 1, none⟩ = false := HO4.out.frozen 1
   have x2 : w4.frozen? ⟨rb + 1, 2, none⟩ = false := HO4.out.frozen 2
   have x3 : w4.frozen? ⟨rb + 1, 3, none⟩ = false := HO4.out.frozen 3
   have x4 : w4.frozen? ⟨rb + 1, 4, none⟩ = false := HO4.out.frozen 4
   have x5 : w4.frozen? ⟨rb + 1, 5, none⟩ = false := HO4.out.frozen 5
   clear HN0 HN1 HRES hs0
   go_wp2
   exact bodyPost_ret (v := .agg #[.int .i64 0, .int .i64 (-1), .string ⟨#[]⟩, .slice none 0 0, .slice none 0 0, .string ⟨#[]⟩]) (by simp [results, Tryz.results18, go_sem, z0, z1, z2, z3, z4, z5]) rfl (gives_mNone HRE.out (by (repeat (first | (refine Below.setCell ?_ hle _) | (refine Below.setCell ?_ (Nat.le_succ_of_le hle) _))); exact HBB.out))
 ·have hpos := hpp rfl
  have hz : (((plc p l).length : Int) == 0) = false := beq_eq_false_iff_ne.2 (by omega)
  have hz2 : ((plc p l).length : Int) ≠ 0 := by omega
  have HRE := Lib.hid (HRES.out.symm)
  have HFO2 := Lib.hid (HFO.out p)
  have HFA2 := Lib.hid (HFA.out p)
  have hplen : (plc p l).length ≤ 256 := by
   obtain ⟨_, _, _, _, _, _, h2⟩ := HT.out w (Below.refl _ _)
   have := plc_len p l
   have := h2.few
   omega
  have HPLT := Lib.hid (@plc_lt l p)
  have HBB := Lib.hid (HBW.out.trans (hb.mono HBW.out.size))
  have HB := Lib.hid hb
  have HZ3 := Lib.hid (HBZ.out.below hb HBZ.out.lt)
  have HO3 := Lib.hid (HBO.out.below hb HBO.out.lt)
  have HOW := Lib.hid ho
  have HNR := Lib.hid hN
  have HMT := Lib.hid (fun (W : World) (h : Below w.heap.size w W) => methods_any t sl l NA nc (fun r : Rt => decide (r.2 = p)) W (HT.out W h) (hN.below h))
  rw [show placesOf (fun r : Rt => decide (r.2 = p)) l 0 = plc p l from rfl] at HMT
  have HFD := Lib.hid (fun (W : World) (h : Below w.heap.size w W) => found_any t sl l NA nc (plc p l) m W (HT.out W h) (hN.below h) HPLT.out hplen)
  obtain ⟨fr, hfr⟩ : ∃ fr, foundP l (plc p l) m = fr := ⟨_, rfl⟩
  rw [hfr] at HFD HFO2 HFA2
  obtain ⟨al, hal⟩ : ∃ al, allowOf l (fun r : Rt => decide (r.2 = p)) = al := ⟨_, rfl⟩
  rw [hal] at HMT HFA2
  obtain ⟨pl, hpl⟩ : ∃ pl, parP p path = pl := ⟨_, rfl⟩
  rw [hpl] at HOW HFO2 HFA2
  rw [hpl]
  have HWP := Lib.hid (show W2.heap.size = w.heap.size + 2 from HWZ.out)
  generalize hns : plc p l = ns at *
  clear hfr hal hpl hns ho hN hb hpp hoq HN0 HN1 HFO HFA HRES HSG HAT HAO HOT HSL HPLT hpos
  have hle1 : w.heap.size ≤ rb + 1 := Nat.le_succ_of_le hle
  have hrz : rb < w3.heap.size := HZ3.out.lt
  have hro : rb + 1 < w3.heap.size := HO3.out.lt
  have z0 : w3.cell? ⟨rb, 0, none⟩ = some (.int .i64 0) := HZ3.out.cell 0
  have z1 : w3.cell? ⟨rb, 1, none⟩ = some (.int .i64 0) := HZ3.out.cell 1
  have z2 : w3.cell? ⟨rb, 2, none⟩ = some (.string ⟨#[]⟩) := HZ3.out.cell 2
  have z3 : w3.cell? ⟨rb, 3, none⟩ = some (.slice none 0 0) := HZ3.out.cell 3
  have z4 : w3.cell? ⟨rb, 4, none⟩ = some (.slice none 0 0) := HZ3.out.cell 4
  have z5 : w3.cell? ⟨rb, 5, none⟩ = some (.string ⟨#[]⟩) := HZ3.out.cell 5
  have y0 : w3.frozen? ⟨rb, 0, none⟩ = false := HZ3.out.frozen 0
  have y1 : w3.frozen? ⟨rb, 1, none⟩ = false := HZ3.out.frozen 1
  have y2 : w3.frozen? ⟨rb, 2, none⟩ = false := HZ3.out.frozen 2
  have y3 : w3.frozen? ⟨rb, 3, none⟩ = false := HZ3.out.frozen 3
  have y4 : w3.frozen? ⟨rb, 4, none⟩ = false := HZ3.out.frozen 4
  have y5 : w3.frozen? ⟨rb, 5, none⟩ = false := HZ3.out.frozen 5
  have o0 : w3.cell? ⟨rb + 1, 0, none⟩ = some (.int .i64 0) := HO3.out.cell 0
  have o1 : w3.cell? ⟨rb + 1, 1, none⟩ = some (.int .i64 (-1)) := HO3.out.cell 1
  have o2 : w3.cell? ⟨rb + 1, 2, none⟩ = some (.string ⟨#[]⟩) := HO3.out.cell 2
  have o3 : w3.cell? ⟨rb + 1, 3, none⟩ = some (.slice none 0 0) := HO3.out.cell 3
  have o4 : w3.cell? ⟨rb + 1, 4, none⟩ = some (.slice none 0 0) := HO3.out.cell 4
  have o5 : w3.cell? ⟨rb + 1, 5, none⟩ = some (.string ⟨#[]⟩) := HO3.out.cell 5
  have x0 : w3.frozen? ⟨rb + 1, 0, none⟩ = false := HO3.out.frozen 0
  have x1 : w3.frozen? ⟨rb + 1, 1, none⟩ = false := HO3.out.frozen 1
  have x2 : w3.frozen? ⟨rb + 1, 2, none⟩ = false := HO3.out.frozen 2
  have x3 : w3.frozen? ⟨rb + 1, 3, none⟩ = false := HO3.out.frozen 3
  have x4 : w3.frozen? ⟨rb + 1, 4, none⟩ = false := HO3.out.frozen 4
  have x5 : w3.frozen? ⟨rb + 1, 5, none⟩ = false := HO3.out.frozen 5
  have HB4 := Lib.hid ((HBB.out.setCell (p := ⟨rb + 1, 2, none⟩) hle1 (.string p)).setCell (p := ⟨rb + 1, 3, none⟩) hle1 (.slice PA pl.length pc))
  have HZ4 := Lib.hid ((HZ3.out.far (p := ⟨rb + 1, 2, none⟩) (by show rb ≠ rb + 1; omega) (.string p)).far (p := ⟨rb + 1, 3, none⟩) (by show rb ≠ rb + 1; omega) (.slice PA pl.length pc))
  have HO4 : Hid (Blk ((w3.setCell ⟨rb + 1, 2, none⟩ (.string p)).setCell ⟨rb + 1, 3, none⟩ (.slice PA pl.length pc)) (rb + 1) 47 #[.int .i64 0, .int .i64 (-1), .string p, .slice PA pl.length pc, .slice none 0 0, .string ⟨#[]⟩]) := Lib.hid ((HO3.out.set_ 2 (.string p)).set_ 3 (.slice PA pl.length pc))
  have hlo : ∀ j, (⟨rb + 1, j, none⟩ : Addr).block < W2.heap.size := fun j => by show rb + 1 < W2.heap.size; exact HBO.out.lt
  have HOW4 := Lib.hid (ownsRow_setCell_below (ownsRow_setCell_below HOW.out (hlo 2) (.string p)) (hlo 3) (.slice PA pl.length pc))
  have HLO := Lib.hid hlo
  clear hlo
  go_wp2_with fail
  have HS4 : Hid (w3.heap.size ≤ ((w3.setCell ⟨rb + 1, 2, none⟩ (.string p)).setCell ⟨rb + 1, 3, none⟩ (.slice PA pl.length pc)).heap.size) := Lib.hid (by simp)
  generalize hw4 : (w3.setCell ⟨rb + 1, 2, none⟩ (.string p)).setCell ⟨rb + 1, 3, none⟩ (.slice PA pl.length pc) = w4 at *
  clear hrz hro z0 z1 z2 z3 z4 z5 y0 y1 y2 y3 y4 y5 o0 o1 o2 o3 o4 o5 x0 x1 x2 x3 x4 x5
  clear hw4
  refine (HFD.out w4 HB4.out).mono ?_
  rintro e w5 ⟨rfl, hb5⟩
  have HBE := Lib.hid (HB4.out.trans (hb5.mono HB4.out.size))
  have HZ5 := Lib.hid (HZ4.out.below hb5 HZ4.out.lt)
  have HO5 := Lib.hid (HO4.out.below hb5 HO4.out.lt)
  have HOW5 := Lib.hid (own_below HOW4.out hb5)
  have HS5 := Lib.hid (show w3.heap.size ≤ w5.heap.size from Nat.le_trans HS4.out hb5.size)
  clear hb5 HFD HZ4 HO4 HOW4 HB4
  by_cases hf : 0 ≤ fr
  ·have HV := Lib.hid (HRE.out.trans (HFO2.out hf))
   have HBB := HBE
   have hrz : rb < w5.heap.size := HZ5.out.lt
   have hro : rb + 1 < w5.heap.size := HO5.out.lt
   have z0 : w5.cell? ⟨rb, 0, none⟩ = some (.int .i64 0) := HZ5.out.cell 0
   have z1 : w5.cell? ⟨rb, 1, none⟩ = some (.int .i64 0) := HZ5.out.cell 1
   have z2 : w5.cell? ⟨rb, 2, none⟩ = some (.string ⟨#[]⟩) := HZ5.out.cell 2
   have z3 : w5.cell? ⟨rb, 3, none⟩ = some (.slice none 0 0) := HZ5.out.cell 3
   have z4 : w5.cell? ⟨rb, 4, none⟩ = some (.slice none 0 0) := HZ5.out.cell 4
   have z5 : w5.cell? ⟨rb, 5, none⟩ = some (.string ⟨#[]⟩) := HZ5.out.cell 5
   have y0 : w5.frozen? ⟨rb, 0, none⟩ = false := HZ5.out.frozen 0
   have y1 : w5.frozen? ⟨rb, 1, none⟩ = false := HZ5.out.frozen 1
   have y2 : w5.frozen? ⟨rb, 2, none⟩ = false := HZ5.out.frozen 2
   have y3 : w5.frozen? ⟨rb, 3, none⟩ = false := HZ5.out.frozen 3
   have y4 : w5.frozen? ⟨rb, 4, none⟩ = false := HZ5.out.frozen 4
   have y5 : w5.frozen? ⟨rb, 5, none⟩ = false := HZ5.out.frozen 5
   have o0 : w5.cell? ⟨rb + 1, 0, none⟩ = some (.int .i64 0) := HO5.out.cell 0
   have o1 : w5.cell? ⟨rb + 1, 1, none⟩ = some (.int .i64 (-1)) := HO5.out.cell 1
   have o2 : w5.cell? ⟨rb + 1, 2, none⟩ = some (.string p) := HO5.out.cell 2
   have o3 : w5.cell? ⟨rb + 1, 3, none⟩ = some (.slice PA pl.length pc) := HO5.out.cell 3
   have o4 : w5.cell? ⟨rb + 1, 4, none⟩ = some (.slice none 0 0) := HO5.out.cell 4
   have o5 : w5.cell? ⟨rb + 1, 5, none⟩ = some (.string ⟨#[]⟩) := HO5.out.cell 5
   have x0 : w5.frozen? ⟨rb + 1, 0, none⟩ = false := HO5.out.frozen 0
   have x1 : w5.frozen? ⟨rb + 1, 1, none⟩ = false := HO5.out.frozen 1
   have x2 : w5.frozen? ⟨rb + 1, 2, none⟩ = false := HO5.out.frozen 2
   have x3 : w5.frozen? ⟨rb + 1, 3, none⟩ = false := HO5.out.frozen 3
   have x4 : w5.frozen? ⟨rb + 1, 4, none⟩ = false := HO5.out.frozen 4
   have x5 : w5.frozen? ⟨rb + 1, 5, none⟩ = false := HO5.out.frozen 5
   have HRL := Lib.hid (show ∀ j, (⟨rb, j, none⟩ : Addr).block < W2.heap.size from fun j => by show rb < W2.heap.size; exact HBZ.out.lt)
   clear HFA2 HFO2
   go_wp2
   exact bodyPost_ret (v := .agg #[.int .i64 1, .int .i64 fr, .string p, .slice PA pl.length pc, .slice none 0 0, .string ⟨#[]⟩]) (by simp [results, Tryz.results18, go_sem, z0, z1, z2, z3, z4, z5]) rfl (gives_found HV.out (World.ownsRow.mono (ownsRow_setCell_below (a := ⟨rb, 5, none⟩) (ownsRow_setCell_below (a := ⟨rb, 4, none⟩) (ownsRow_setCell_below (a := ⟨rb, 3, none⟩) (ownsRow_setCell_below (a := ⟨rb, 2, none⟩) (ownsRow_setCell_below (a := ⟨rb, 1, none⟩) (ownsRow_setCell_below (a := ⟨rb, 0, none⟩) (ownsRow_setCell_below (a := ⟨rb + 1, 0, none⟩) (ownsRow_setCell_below (a := ⟨rb + 1, 1, none⟩) HOW5.out (HLO.out 1) _) (HLO.out 0) _) (HRL.out 0) _) (HRL.out 1) _) (HRL.out 2) _) (HRL.out 3) _) (HRL.out 4) _) (HRL.out 5) _) HBW.out.size) (by (repeat (first | (refine Below.setCell ?_ hle _) | (refine Below.setCell ?_ (Nat.le_succ_of_le hle) _))); exact HBB.out))
  ·have hfn : ¬ (0 ≤ fr) := hf
   have hfd : decide (0 ≤ fr) = false := decide_eq_false hf
   have HRL := Lib.hid (show ∀ j, (⟨rb, j, none⟩ : Addr).block < W2.heap.size from fun j => by show rb < W2.heap.size; exact HBZ.out.lt)
   by_cases hm : m = mOpt
   ·have hmt : (m.toList == [79, 80, 84, 73, 79, 78, 83]) = true := by rw [opt_test]; exact decide_eq_true hm
    have HV := Lib.hid (show res = ⟨3, fr, p, pl, al, ⟨#[]⟩⟩ from HRE.out.trans ((HFA2.out (by omega)).trans (by rw [if_pos hm])))
    have hrz : rb < w5.heap.size := HZ5.out.lt
    have hro : rb + 1 < w5.heap.size := HO5.out.lt
    have z0 : w5.cell? ⟨rb, 0, none⟩ = some (.int .i64 0) := HZ5.out.cell 0
    have z1 : w5.cell? ⟨rb, 1, none⟩ = some (.int .i64 0) := HZ5.out.cell 1
    have z2 : w5.cell? ⟨rb, 2, none⟩ = some (.string ⟨#[]⟩) := HZ5.out.cell 2
    have z3 : w5.cell? ⟨rb, 3, none⟩ = some (.slice none 0 0) := HZ5.out.cell 3
    have z4 : w5.cell? ⟨rb, 4, none⟩ = some (.slice none 0 0) := HZ5.out.cell 4
    have z5 : w5.cell? ⟨rb, 5, none⟩ = some (.string ⟨#[]⟩) := HZ5.out.cell 5
    have y0 : w5.frozen? ⟨rb, 0, none⟩ = false := HZ5.out.frozen 0
    have y1 : w5.frozen? ⟨rb, 1, none⟩ = false := HZ5.out.frozen 1
    have y2 : w5.frozen? ⟨rb, 2, none⟩ = false := HZ5.out.frozen 2
    have y3 : w5.frozen? ⟨rb, 3, none⟩ = false := HZ5.out.frozen 3
    have y4 : w5.frozen? ⟨rb, 4, none⟩ = false := HZ5.out.frozen 4
    have y5 : w5.frozen? ⟨rb, 5, none⟩ = false := HZ5.out.frozen 5
    have o0 : w5.cell? ⟨rb + 1, 0, none⟩ = some (.int .i64 0) := HO5.out.cell 0
    have o1 : w5.cell? ⟨rb + 1, 1, none⟩ = some (.int .i64 (-1)) := HO5.out.cell 1
    have o2 : w5.cell? ⟨rb + 1, 2, none⟩ = some (.string p) := HO5.out.cell 2
    have o3 : w5.cell? ⟨rb + 1, 3, none⟩ = some (.slice PA pl.length pc) := HO5.out.cell 3
    have o4 : w5.cell? ⟨rb + 1, 4, none⟩ = some (.slice none 0 0) := HO5.out.cell 4
    have o5 : w5.cell? ⟨rb + 1, 5, none⟩ = some (.string ⟨#[]⟩) := HO5.out.cell 5
    have x0 : w5.frozen? ⟨rb + 1, 0, none⟩ = false := HO5.out.frozen 0
    have x1 : w5.frozen? ⟨rb + 1, 1, none⟩ = false := HO5.out.frozen 1
    have x2 : w5.frozen? ⟨rb + 1, 2, none⟩ = false := HO5.out.frozen 2
    have x3 : w5.frozen? ⟨rb + 1, 3, none⟩ = false := HO5.out.frozen 3
    have x4 : w5.frozen? ⟨rb + 1, 4, none⟩ = false := HO5.out.frozen 4
    have x5 : w5.frozen? ⟨rb + 1, 5, none⟩ = false := HO5.out.frozen 5
    clear HFA2 HFO2 hm hf
    have HB6 := Lib.hid ((HBE.out.setCell (p := ⟨rb + 1, 1, none⟩) hle1 (.int .i64 fr)).setCell (p := ⟨rb + 1, 0, none⟩) hle1 (.int .i64 3))
    have HZ6 := Lib.hid ((HZ5.out.far (p := ⟨rb + 1, 1, none⟩) (by show rb ≠ rb + 1; omega) (.int .i64 fr)).far (p := ⟨rb + 1, 0, none⟩) (by show rb ≠ rb + 1; omega) (.int .i64 3))
    have HO6 : Hid (Blk ((w5.setCell ⟨rb + 1, 1, none⟩ (.int .i64 fr)).setCell ⟨rb + 1, 0, none⟩ (.int .i64 3)) (rb + 1) 47 #[.int .i64 3, .int .i64 fr, .string p, .slice PA pl.length pc, .slice none 0 0, .string ⟨#[]⟩]) := Lib.hid ((HO5.out.set_ 1 (.int .i64 fr)).set_ 0 (.int .i64 3))
    have HOW6 := Lib.hid (ownsRow_setCell_below (a := ⟨rb + 1, 0, none⟩) (ownsRow_setCell_below (a := ⟨rb + 1, 1, none⟩) HOW5.out (HLO.out 1) (.int .i64 fr)) (HLO.out 0) (.int .i64 3))
    have hz6 : W2.heap.size ≤ ((w5.setCell ⟨rb + 1, 1, none⟩ (.int .i64 fr)).setCell ⟨rb + 1, 0, none⟩ (.int .i64 3)).heap.size := by
     have := HB.out.size
     have := HBZ.out.lt
     simp
     exact Nat.le_trans (HB.out.size) HS5.out
    go_wp2_with fail
    generalize hw6 : (w5.setCell ⟨rb + 1, 1, none⟩ (.int .i64 fr)).setCell ⟨rb + 1, 0, none⟩ (.int .i64 3) = w6 at *
    clear hrz hro z0 z1 z2 z3 z4 z5 y0 y1 y2 y3 y4 y5 o0 o1 o2 o3 o4 o5 x0 x1 x2 x3 x4 x5
    clear hw6
    refine (HMT.out w6 HB6.out).mono ?_
    rintro e w7 ⟨AA, ac, rfl, hoa, hb7⟩
    have HBB := Lib.hid (HB6.out.trans (hb7.mono HB6.out.size))
    have HZ7 := Lib.hid (HZ6.out.below hb7 HZ6.out.lt)
    have HO7 := Lib.hid (HO6.out.below hb7 HO6.out.lt)
    have HOW7 := Lib.hid (own_below HOW6.out hb7)
    have HOA := Lib.hid (hoa.mono hz6)
    clear hb7 hoa hz6 HMT HZ6 HO6 HOW6
    have hrz : rb < w7.heap.size := HZ7.out.lt
    have hro : rb + 1 < w7.heap.size := HO7.out.lt
    have z0 : w7.cell? ⟨rb, 0, none⟩ = some (.int .i64 0) := HZ7.out.cell 0
    have z1 : w7.cell? ⟨rb, 1, none⟩ = some (.int .i64 0) := HZ7.out.cell 1
    have z2 : w7.cell? ⟨rb, 2, none⟩ = some (.string ⟨#[]⟩) := HZ7.out.cell 2
    have z3 : w7.cell? ⟨rb, 3, none⟩ = some (.slice none 0 0) := HZ7.out.cell 3
    have z4 : w7.cell? ⟨rb, 4, none⟩ = some (.slice none 0 0) := HZ7.out.cell 4
    have z5 : w7.cell? ⟨rb, 5, none⟩ = some (.string ⟨#[]⟩) := HZ7.out.cell 5
    have y0 : w7.frozen? ⟨rb, 0, none⟩ = false := HZ7.out.frozen 0
    have y1 : w7.frozen? ⟨rb, 1, none⟩ = false := HZ7.out.frozen 1
    have y2 : w7.frozen? ⟨rb, 2, none⟩ = false := HZ7.out.frozen 2
    have y3 : w7.frozen? ⟨rb, 3, none⟩ = false := HZ7.out.frozen 3
    have y4 : w7.frozen? ⟨rb, 4, none⟩ = false := HZ7.out.frozen 4
    have y5 : w7.frozen? ⟨rb, 5, none⟩ = false := HZ7.out.frozen 5
    have o0 : w7.cell? ⟨rb + 1, 0, none⟩ = some (.int .i64 3) := HO7.out.cell 0
    have o1 : w7.cell? ⟨rb + 1, 1, none⟩ = some (.int .i64 fr) := HO7.out.cell 1
    have o2 : w7.cell? ⟨rb + 1, 2, none⟩ = some (.string p) := HO7.out.cell 2
    have o3 : w7.cell? ⟨rb + 1, 3, none⟩ = some (.slice PA pl.length pc) := HO7.out.cell 3
    have o4 : w7.cell? ⟨rb + 1, 4, none⟩ = some (.slice none 0 0) := HO7.out.cell 4
    have o5 : w7.cell? ⟨rb + 1, 5, none⟩ = some (.string ⟨#[]⟩) := HO7.out.cell 5
    have x0 : w7.frozen? ⟨rb + 1, 0, none⟩ = false := HO7.out.frozen 0
    have x1 : w7.frozen? ⟨rb + 1, 1, none⟩ = false := HO7.out.frozen 1
    have x2 : w7.frozen? ⟨rb + 1, 2, none⟩ = false := HO7.out.frozen 2
    have x3 : w7.frozen? ⟨rb + 1, 3, none⟩ = false := HO7.out.frozen 3
    have x4 : w7.frozen? ⟨rb + 1, 4, none⟩ = false := HO7.out.frozen 4
    have x5 : w7.frozen? ⟨rb + 1, 5, none⟩ = false := HO7.out.frozen 5
    go_wp2
    exact bodyPost_ret (v := .agg #[.int .i64 3, .int .i64 fr, .string p, .slice PA pl.length pc, .slice AA al.length ac, .string ⟨#[]⟩]) (by simp [results, Tryz.results18, go_sem, z0, z1, z2, z3, z4, z5]) rfl (gives_allow HV.out (World.ownsRow.mono (ownsRow_setCell_below (a := ⟨rb, 5, none⟩) (ownsRow_setCell_below (a := ⟨rb, 4, none⟩) (ownsRow_setCell_below (a := ⟨rb, 3, none⟩) (ownsRow_setCell_below (a := ⟨rb, 2, none⟩) (ownsRow_setCell_below (a := ⟨rb, 1, none⟩) (ownsRow_setCell_below (a := ⟨rb, 0, none⟩) (ownsRow_setCell_below (a := ⟨rb + 1, 4, none⟩) HOW7.out (HLO.out 4) _) (HRL.out 0) _) (HRL.out 1) _) (HRL.out 2) _) (HRL.out 3) _) (HRL.out 4) _) (HRL.out 5) _) HBW.out.size) (World.ownsRow.mono (ownsRow_setCell_below (a := ⟨rb, 5, none⟩) (ownsRow_setCell_below (a := ⟨rb, 4, none⟩) (ownsRow_setCell_below (a := ⟨rb, 3, none⟩) (ownsRow_setCell_below (a := ⟨rb, 2, none⟩) (ownsRow_setCell_below (a := ⟨rb, 1, none⟩) (ownsRow_setCell_below (a := ⟨rb, 0, none⟩) (ownsRow_setCell_below (a := ⟨rb + 1, 4, none⟩) HOA.out (HLO.out 4) _) (HRL.out 0) _) (HRL.out 1) _) (HRL.out 2) _) (HRL.out 3) _) (HRL.out 4) _) (HRL.out 5) _) HBW.out.size) (by (repeat (first | (refine Below.setCell ?_ hle _) | (refine Below.setCell ?_ (Nat.le_succ_of_le hle) _))); exact HBB.out))
   ·have hmt : (m.toList == [79, 80, 84, 73, 79, 78, 83]) = false := by rw [opt_test]; exact decide_eq_false hm
    have HV := Lib.hid (show res = ⟨2, fr, p, pl, al, ⟨#[]⟩⟩ from HRE.out.trans ((HFA2.out (by omega)).trans (by rw [if_neg hm])))
    have hrz : rb < w5.heap.size := HZ5.out.lt
    have hro : rb + 1 < w5.heap.size := HO5.out.lt
    have z0 : w5.cell? ⟨rb, 0, none⟩ = some (.int .i64 0) := HZ5.out.cell 0
    have z1 : w5.cell? ⟨rb, 1, none⟩ = some (.int .i64 0) := HZ5.out.cell 1
    have z2 : w5.cell? ⟨rb, 2, none⟩ = some (.string ⟨#[]⟩) := HZ5.out.cell 2
    have z3 : w5.cell? ⟨rb, 3, none⟩ = some (.slice none 0 0) := HZ5.out.cell 3
    have z4 : w5.cell? ⟨rb, 4, none⟩ = some (.slice none 0 0) := HZ5.out.cell 4
    have z5 : w5.cell? ⟨rb, 5, none⟩ = some (.string ⟨#[]⟩) := HZ5.out.cell 5
    have y0 : w5.frozen? ⟨rb, 0, none⟩ = false := HZ5.out.frozen 0
    have y1 : w5.frozen? ⟨rb, 1, none⟩ = false := HZ5.out.frozen 1
    have y2 : w5.frozen? ⟨rb, 2, none⟩ = false := HZ5.out.frozen 2
    have y3 : w5.frozen? ⟨rb, 3, none⟩ = false := HZ5.out.frozen 3
    have y4 : w5.frozen? ⟨rb, 4, none⟩ = false := HZ5.out.frozen 4
    have y5 : w5.frozen? ⟨rb, 5, none⟩ = false := HZ5.out.frozen 5
    have o0 : w5.cell? ⟨rb + 1, 0, none⟩ = some (.int .i64 0) := HO5.out.cell 0
    have o1 : w5.cell? ⟨rb + 1, 1, none⟩ = some (.int .i64 (-1)) := HO5.out.cell 1
    have o2 : w5.cell? ⟨rb + 1, 2, none⟩ = some (.string p) := HO5.out.cell 2
    have o3 : w5.cell? ⟨rb + 1, 3, none⟩ = some (.slice PA pl.length pc) := HO5.out.cell 3
    have o4 : w5.cell? ⟨rb + 1, 4, none⟩ = some (.slice none 0 0) := HO5.out.cell 4
    have o5 : w5.cell? ⟨rb + 1, 5, none⟩ = some (.string ⟨#[]⟩) := HO5.out.cell 5
    have x0 : w5.frozen? ⟨rb + 1, 0, none⟩ = false := HO5.out.frozen 0
    have x1 : w5.frozen? ⟨rb + 1, 1, none⟩ = false := HO5.out.frozen 1
    have x2 : w5.frozen? ⟨rb + 1, 2, none⟩ = false := HO5.out.frozen 2
    have x3 : w5.frozen? ⟨rb + 1, 3, none⟩ = false := HO5.out.frozen 3
    have x4 : w5.frozen? ⟨rb + 1, 4, none⟩ = false := HO5.out.frozen 4
    have x5 : w5.frozen? ⟨rb + 1, 5, none⟩ = false := HO5.out.frozen 5
    clear HFA2 HFO2 hm hf
    have HB6 := Lib.hid ((HBE.out.setCell (p := ⟨rb + 1, 1, none⟩) hle1 (.int .i64 fr)).setCell (p := ⟨rb + 1, 0, none⟩) hle1 (.int .i64 2))
    have HZ6 := Lib.hid ((HZ5.out.far (p := ⟨rb + 1, 1, none⟩) (by show rb ≠ rb + 1; omega) (.int .i64 fr)).far (p := ⟨rb + 1, 0, none⟩) (by show rb ≠ rb + 1; omega) (.int .i64 2))
    have HO6 : Hid (Blk ((w5.setCell ⟨rb + 1, 1, none⟩ (.int .i64 fr)).setCell ⟨rb + 1, 0, none⟩ (.int .i64 2)) (rb + 1) 47 #[.int .i64 2, .int .i64 fr, .string p, .slice PA pl.length pc, .slice none 0 0, .string ⟨#[]⟩]) := Lib.hid ((HO5.out.set_ 1 (.int .i64 fr)).set_ 0 (.int .i64 2))
    have HOW6 := Lib.hid (ownsRow_setCell_below (a := ⟨rb + 1, 0, none⟩) (ownsRow_setCell_below (a := ⟨rb + 1, 1, none⟩) HOW5.out (HLO.out 1) (.int .i64 fr)) (HLO.out 0) (.int .i64 2))
    have hz6 : W2.heap.size ≤ ((w5.setCell ⟨rb + 1, 1, none⟩ (.int .i64 fr)).setCell ⟨rb + 1, 0, none⟩ (.int .i64 2)).heap.size := by
     have := HB.out.size
     have := HBZ.out.lt
     simp
     exact Nat.le_trans (HB.out.size) HS5.out
    go_wp2_with fail
    generalize hw6 : (w5.setCell ⟨rb + 1, 1, none⟩ (.int .i64 fr)).setCell ⟨rb + 1, 0, none⟩ (.int .i64 2) = w6 at *
    clear hrz hro z0 z1 z2 z3 z4 z5 y0 y1 y2 y3 y4 y5 o0 o1 o2 o3 o4 o5 x0 x1 x2 x3 x4 x5
    clear hw6
    refine (HMT.out w6 HB6.out).mono ?_
    rintro e w7 ⟨AA, ac, rfl, hoa, hb7⟩
    have HBB := Lib.hid (HB6.out.trans (hb7.mono HB6.out.size))
    have HZ7 := Lib.hid (HZ6.out.below hb7 HZ6.out.lt)
    have HO7 := Lib.hid (HO6.out.below hb7 HO6.out.lt)
    have HOW7 := Lib.hid (own_below HOW6.out hb7)
    have HOA := Lib.hid (hoa.mono hz6)
    clear hb7 hoa hz6 HMT HZ6 HO6 HOW6
    have hrz : rb < w7.heap.size := HZ7.out.lt
    have hro : rb + 1 < w7.heap.size := HO7.out.lt
    have z0 : w7.cell? ⟨rb, 0, none⟩ = some (.int .i64 0) := HZ7.out.cell 0
    have z1 : w7.cell? ⟨rb, 1, none⟩ = some (.int .i64 0) := HZ7.out.cell 1
    have z2 : w7.cell? ⟨rb, 2, none⟩ = some (.string ⟨#[]⟩) := HZ7.out.cell 2
    have z3 : w7.cell? ⟨rb, 3, none⟩ = some (.slice none 0 0) := HZ7.out.cell 3
    have z4 : w7.cell? ⟨rb, 4, none⟩ = some (.slice none 0 0) := HZ7.out.cell 4
    have z5 : w7.cell? ⟨rb, 5, none⟩ = some (.string ⟨#[]⟩) := HZ7.out.cell 5
    have y0 : w7.frozen? ⟨rb, 0, none⟩ = false := HZ7.out.frozen 0
    have y1 : w7.frozen? ⟨rb, 1, none⟩ = false := HZ7.out.frozen 1
    have y2 : w7.frozen? ⟨rb, 2, none⟩ = false := HZ7.out.frozen 2
    have y3 : w7.frozen? ⟨rb, 3, none⟩ = false := HZ7.out.frozen 3
    have y4 : w7.frozen? ⟨rb, 4, none⟩ = false := HZ7.out.frozen 4
    have y5 : w7.frozen? ⟨rb, 5, none⟩ = false := HZ7.out.frozen 5
    have o0 : w7.cell? ⟨rb + 1, 0, none⟩ = some (.int .i64 2) := HO7.out.cell 0
    have o1 : w7.cell? ⟨rb + 1, 1, none⟩ = some (.int .i64 fr) := HO7.out.cell 1
    have o2 : w7.cell? ⟨rb + 1, 2, none⟩ = some (.string p) := HO7.out.cell 2
    have o3 : w7.cell? ⟨rb + 1, 3, none⟩ = some (.slice PA pl.length pc) := HO7.out.cell 3
    have o4 : w7.cell? ⟨rb + 1, 4, none⟩ = some (.slice none 0 0) := HO7.out.cell 4
    have o5 : w7.cell? ⟨rb + 1, 5, none⟩ = some (.string ⟨#[]⟩) := HO7.out.cell 5
    have x0 : w7.frozen? ⟨rb + 1, 0, none⟩ = false := HO7.out.frozen 0
    have x1 : w7.frozen? ⟨rb + 1, 1, none⟩ = false := HO7.out.frozen 1
    have x2 : w7.frozen? ⟨rb + 1, 2, none⟩ = false := HO7.out.frozen 2
    have x3 : w7.frozen? ⟨rb + 1, 3, none⟩ = false := HO7.out.frozen 3
    have x4 : w7.frozen? ⟨rb + 1, 4, none⟩ = false := HO7.out.frozen 4
    have x5 : w7.frozen? ⟨rb + 1, 5, none⟩ = false := HO7.out.frozen 5
    go_wp2
    exact bodyPost_ret (v := .agg #[.int .i64 2, .int .i64 fr, .string p, .slice PA pl.length pc, .slice AA al.length ac, .string ⟨#[]⟩]) (by simp [results, Tryz.results18, go_sem, z0, z1, z2, z3, z4, z5]) rfl (gives_allow HV.out (World.ownsRow.mono (ownsRow_setCell_below (a := ⟨rb, 5, none⟩) (ownsRow_setCell_below (a := ⟨rb, 4, none⟩) (ownsRow_setCell_below (a := ⟨rb, 3, none⟩) (ownsRow_setCell_below (a := ⟨rb, 2, none⟩) (ownsRow_setCell_below (a := ⟨rb, 1, none⟩) (ownsRow_setCell_below (a := ⟨rb, 0, none⟩) (ownsRow_setCell_below (a := ⟨rb + 1, 4, none⟩) HOW7.out (HLO.out 4) _) (HRL.out 0) _) (HRL.out 1) _) (HRL.out 2) _) (HRL.out 3) _) (HRL.out 4) _) (HRL.out 5) _) HBW.out.size) (World.ownsRow.mono (ownsRow_setCell_below (a := ⟨rb, 5, none⟩) (ownsRow_setCell_below (a := ⟨rb, 4, none⟩) (ownsRow_setCell_below (a := ⟨rb, 3, none⟩) (ownsRow_setCell_below (a := ⟨rb, 2, none⟩) (ownsRow_setCell_below (a := ⟨rb, 1, none⟩) (ownsRow_setCell_below (a := ⟨rb, 0, none⟩) (ownsRow_setCell_below (a := ⟨rb + 1, 4, none⟩) HOA.out (HLO.out 4) _) (HRL.out 0) _) (HRL.out 1) _) (HRL.out 2) _) (HRL.out 3) _) (HRL.out 4) _) (HRL.out 5) _) HBW.out.size) (by (repeat (first | (refine Below.setCell ?_ hle _) | (refine Below.setCell ?_ (Nat.le_succ_of_le hle) _))); exact HBB.out))
end Go.Proofs.YtiohmnhbmmhnhaaGreatDoor
