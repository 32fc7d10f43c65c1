/-
 TgNo, without what this claim does not reach.
-/
import Derived.Test.YtbnafbdhomdcoaaGreatDoorZm19
import Derived.Test.YtbnafbdhomdcoaaGreatDoorZm11
import Derived.RangeFuncNested
import Derived.RangeFuncBound
import Derived.RangeFuncCalls
import Derived.RangeFuncLeaves
import Derived.Shelf.Abstract
import Derived.Shelf.RegionOpen
import Derived.WalkKit
import Derived.OwnWalkIn
import Derived.TacticsInMore
import Derived.LoopNIn
import Derived.LoopIn
import Derived.RangeFuncBox
import Derived.Maps.AppendAt
namespace Go.Proofs.YtbnafbdhomdcoaaGreatDoor.T5
open Go.RowKit Go.Shelf Go.Lib
theorem isPath_heads (s : ByteArray) : isPathB s = (heads s 47 && decide (pathStop s = s.size)) := by unfold isPathB heads; rw [Bool.and_assoc]
set_option maxRecDepth 20000 in
theorem isPath_any (s : ByteArray) (w : World) (hs : s.size ≤ 1099511627776) :
  Calls Tryz.prog 142 #[.string s] w fun e w' => e = .returned (.bool (isPathB s)) ∧ ∃ q : Nat, w' = w.drewN q := by
 have HH := Lib.hid (fun w => Prefix_any s 47 w)
 rw [show ((47 : UInt8).toNat : Int) = 47 from rfl] at HH
 have HS := Lib.hid (fun w => signs_path s w hs)
 rw [isPath_heads]
 cases hh : heads s 47
 ·rw [hh] at HH
  rw [Bool.false_and]
  clear hh
  go_enter Tryz.func142, Tryz.ntmps142
  go_wp2_with fail
  refine (HH.out _).mono ?_
  rintro e w1 ⟨rfl, rfl⟩
  go_wp2
  go_ret
  exact ⟨rfl, 0, rfl⟩
 ·rw [hh] at HH
  rw [Bool.true_and]
  clear hh
  generalize pathStop s = n at *
  by_cases hn : n = s.size
  ·have h1 : ((n : Int) == (s.size : Int)) = true := beq_iff_eq.2 (by omega)
   have h2 : (n == s.size) = true := beq_iff_eq.2 hn
   rw [decide_eq_true hn]
   clear hn
   go_enter Tryz.func142, Tryz.ntmps142
   go_wp2_with fail
   refine (HH.out _).mono ?_
   rintro e w1 ⟨rfl, rfl⟩
   go_wp2_with fail
   refine (HS.out _).mono ?_
   rintro e w1 ⟨rfl, q, rfl⟩
   go_wp2
   go_ret
   exact ⟨rfl, q, rfl⟩
  ·have h1 : ((n : Int) == (s.size : Int)) = false := beq_eq_false_iff_ne.2 (by omega)
   have h2 : (n == s.size) = false := beq_eq_false_iff_ne.2 hn
   rw [decide_eq_false hn]
   clear hn
   go_enter Tryz.func142, Tryz.ntmps142
   go_wp2_with fail
   refine (HH.out _).mono ?_
   rintro e w1 ⟨rfl, rfl⟩
   go_wp2_with fail
   refine (HS.out _).mono ?_
   rintro e w1 ⟨rfl, q, rfl⟩
   go_wp2
   go_ret
   exact ⟨rfl, q, rfl⟩
set_option maxRecDepth 20000 in
theorem litePrefix_any (s : ByteArray) (w : World) (hh : heads s 47 = true) (hs : s.size ≤ 4194304) :
  Calls Tryz.prog 153 #[.string s, .string ⟨#[47]⟩] w fun e w' => e = .returned (.tuple #[.string (behind1 s), .bool true]) ∧ w = w' := by
 have HP : Calls Tryz.prog 196 #[.string s, .string ⟨#[47]⟩] w fun e w' => e = .returned (.bool true) ∧ w = w' :=
  (Tryz.stringslite_HasPrefix s ⟨#[47]⟩ w).mono fun _ _ ⟨he, hw⟩ => ⟨by rw [he]; have := prefix_one s 47; rw [show ((47 : UInt8).toNat : Int) = 47 from rfl, hh] at this; exact ret_bool this, hw.symm⟩
 have HP := Lib.hid HP
 have h1 : 1 ≤ s.size := by
  unfold heads at hh
  simp at hh
  omega
 unfold behind1
 clear hh
 go_enter Tryz.func153, Tryz.ntmps153
 go_wp2_with fail
 refine HP.out.mono ?_
 rintro e w1 ⟨rfl, rfl⟩
 go_wp2
 go_ret2
 exact ⟨rfl, rfl⟩
set_option maxRecDepth 20000 in
theorem CutPrefix_any (s : ByteArray) (w : World) (hh : heads s 47 = true) (hs : s.size ≤ 4194304) :
  Calls Tryz.prog 100 #[.string s, .string ⟨#[47]⟩] w fun e w' => e = .returned (.tuple #[.string (behind1 s), .bool true]) ∧ w = w' := by
 have HP := Lib.hid (litePrefix_any s w hh hs)
 clear hh
 generalize behind1 s = t at *
 go_enter Tryz.func100, Tryz.ntmps100
 go_wp2_with fail
 refine HP.out.mono ?_
 rintro e w1 ⟨rfl, rfl⟩
 go_wp2
 go_ret2
 exact ⟨rfl, rfl⟩
end Go.Proofs.YtbnafbdhomdcoaaGreatDoor.T5
namespace Go.Proofs.YtbnafbdhomdcoaaGreatDoor.T5
open Go.RowKit Go.Shelf Go.Lib
attribute [local go_sem] Oper.semAt_some
abbrev Seg := { x : ByteArray // x.size ≤ 4194304 }
def bare (l : List Seg) : List ByteArray := l.map (·.1)
theorem bare_snoc (l : List Seg) (x : Seg) : bare (l ++ [x]) = bare l ++ [x.1] := by simp [bare]
theorem bare_length (l : List Seg) : (bare l).length = l.length := by simp [bare]
def moreOf : Value → Nat
 | .bool true => 1
 | _ => 0
def textOf : Value → Nat
 | .string t => t.size
 | _ => 0
def OnWay (segs : List ByteArray) (J : List Seg → World → Prop) (v m : Value) (wr : World) : Prop :=
 ∃ (pre : List Seg) (t : ByteArray) (b : Bool), v = .string t ∧ m = .bool b ∧ (if b = true then bare pre ++ splitC t 47 = segs else bare pre = segs) ∧ J pre wr ∧ Glob wr ∧ t.size ≤ 4194304
theorem below_grown {w w' : World} (hb : Below w.heap.size w w') : w.grownBy w' none := ⟨hb.os, hb.tape, hb.output, hb.size, fun k hk _ => hb.block k hk⟩
set_option maxRecDepth 100000 in
set_option maxHeartbeats 4000000 in
theorem each1_in (n : Nat) (hn : 1 ≤ n) (l Bn n₀ : Nat) (s : ByteArray) (hh : heads s 47 = true) (hs : s.size ≤ 4194304) (hn₀ : 3 ≤ n₀) (J Jx : List Seg → World → Prop)
  (hY : ∀ pre x W, J pre W → pre.length < (splitC (behind1 s) 47).length → YieldAt Fence.wide (n - 1) Tryz.prog l #[.string x.1] W fun e W' =>
   (e = .returned (.bool true) ∧ J (pre ++ [x]) W' ∧ Below n₀ W W') ∨ (e = .returned (.bool false) ∧ Jx (pre ++ [x]) W'))
  (W : World) (hJ : AbidesFrom W.heap.size J) (hg : Glob W) (hBn : W.cell? ⟨Bn, 0, none⟩ = some (.string s)) (h0 : J [] W) :
  CallsIn Fence.wide n Tryz.prog 191 #[.func (.yield l) #[] #[], .pointer (some ⟨Bn, 0, none⟩)] W fun e W' => (∃ v, e = .returned v) ∧
   ((∃ ys, bare ys = splitC (behind1 s) 47 ∧ J ys W') ∨ (∃ pre, True ∧ Jx pre W')) := by
 have HC := Lib.hid (CutPrefix_any s W hh hs)
 have hz : (behind1 s).size ≤ 4194304 := by unfold behind1; rw [ByteArray.size_extract]; omega
 obtain ⟨segs, hsegs⟩ : ∃ segs, splitC (behind1 s) 47 = segs := ⟨_, rfl⟩
 rw [hsegs] at hY ⊢
 have HSG := Lib.hid hsegs
 clear hsegs hh
 generalize behind1 s = t0 at *
 refine callsIn_of_wp Tryz.func191 rfl trivial ?_ rfl
 simp only [Tryz.ntmps191, List.size_toArray, List.length_cons, List.length_nil, Nat.reduceAdd, Nat.reduceSub, Array.replicate_succ, Array.replicate_zero, List.push_toArray, List.append_toArray, List.nil_append, List.cons_append]
 gi_wp2_with fail
 refine ⟨trivial, (callsIn_wide.2 HC.out).mono ?_⟩
 rintro e w1 ⟨rfl, rfl⟩
 gi_wp2
 gi_loopw [3, 4] (fun v m wr => OnWay segs J v m wr) (fun v m _ => textOf v + moreOf m)
 case atStart => exact ⟨[], t0, true, rfl, rfl, HSG.out, h0, hg, hz⟩
 case round =>
  obtain ⟨pre, t, b, rfl, rfl, hseg, hJr, hgr, htz⟩ := hrel
  cases b
  ·have HE := Lib.hid (show bare pre = segs from hseg)
   clear hseg
   gi_wp2
   go_end0
   exact ⟨⟨_, rfl⟩, .inl ⟨pre, HE.out, hJr⟩⟩
  ·have HE := Lib.hid (show bare pre ++ splitC t 47 = segs from hseg)
   clear hseg
   have hlt : pre.length < segs.length := by
    have h1 := congrArg List.length HE.out
    have h2 := List.length_pos_iff.2 (splitC_ne t 47)
    rw [List.length_append, bare_length] at h1
    omega
   have HK := Lib.hid (Cut_any t 47 wr htz hgr)
   rw [show ((47 : UInt8).toNat : Int) = 47 from rfl] at HK
   unfold cutVal at HK
   have hJd : ∀ q, J pre (wr.drewN q) := fun q => hJ pre wr _ none hJr (below_grown (below_drewN (Below.refl _ _) q)) (fun r e => by cases e)
   have HJD := Lib.hid hJd
   clear hJd
   rcases place_spec t 47 with ⟨hp, _⟩ | ⟨k, hp, hk, _⟩
   ·rw [cutW_miss hp] at HK
    dsimp only at HK
    have HS := Lib.hid (show bare (pre ++ [⟨t, htz⟩]) = segs by rw [bare_snoc, ← HE.out, splitC_miss hp])
    clear hp
    gi_wp2_with fail
    refine ⟨trivial, (callsIn_wide.2 HK.out).mono ?_⟩
    rintro e w1 ⟨rfl, q, rfl⟩
    obtain ⟨fn, tmps, assign, body, hy, hR⟩ := hY pre ⟨t, htz⟩ _ (HJD.out q) hlt
    dsimp only at hy
    gi_wp2
    refine hR.mono ?_
    rintro e W3 (⟨rfl, hJ3, hk3⟩ | ⟨rfl, hJx3⟩)
    ·have hg3 := (hgr.drewN q).below hk3 hn₀
     gi_wp2
     go_roundw
     case rel => exact ⟨_, _, false, rfl, rfl, HS.out, hJ3, hg3, by decide⟩
     case measure =>
      have h00 : (⟨#[]⟩ : ByteArray).size = 0 := rfl
      simp [textOf, moreOf]
      omega
    ·gi_wp2
     refine bodyPost_ret (results_none rfl _ _ _) rfl ?_
     exact ⟨⟨_, rfl⟩, .inr ⟨_, trivial, hJx3⟩⟩
   ·rw [cutW_hit hk hp] at HK
    dsimp only at HK
    have hz1 := ext_size t (a := 0) (b := k) (by omega) (by omega)
    have hz2 := ext_size t (a := k + 1) (b := t.size) (by omega) (Nat.le_refl _)
    have hx : (t.extract 0 k).size ≤ 4194304 := by omega
    have hx2 : (t.extract (k + 1) t.size).size ≤ 4194304 := by omega
    have hx3 : (t.extract (k + 1) t.size).size < t.size := by omega
    have HS := Lib.hid (show bare (pre ++ [⟨t.extract 0 k, hx⟩]) ++ splitC (t.extract (k + 1) t.size) 47 = segs by rw [bare_snoc, ← HE.out, splitC_hit hk hp, List.append_assoc]; rfl)
    clear hp hz1 hz2
    generalize t.extract 0 k = a at *
    generalize t.extract (k + 1) t.size = r at *
    gi_wp2_with fail
    refine ⟨trivial, (callsIn_wide.2 HK.out).mono ?_⟩
    rintro e w1 ⟨rfl, q, rfl⟩
    obtain ⟨fn, tmps, assign, body, hy, hR⟩ := hY pre ⟨a, hx⟩ _ (HJD.out q) hlt
    dsimp only at hy
    gi_wp2
    refine hR.mono ?_
    rintro e W3 (⟨rfl, hJ3, hk3⟩ | ⟨rfl, hJx3⟩)
    ·have hg3 := (hgr.drewN q).below hk3 hn₀
     gi_wp2
     go_roundw
     case rel => exact ⟨_, _, true, rfl, rfl, HS.out, hJ3, hg3, hx2⟩
     case measure => simp [textOf, moreOf]; omega
    ·gi_wp2
     refine bodyPost_ret (results_none rfl _ _ _) rfl ?_
     exact ⟨⟨_, rfl⟩, .inr ⟨_, trivial, hJx3⟩⟩
theorem each_stops (n : Nat) (hn : 1 ≤ n) (Bn n₀ : Nat) (s : ByteArray) (hh : heads s 47 = true) (hs : s.size ≤ 4194304) (w : World) (hg : Glob w) (hB : Bn < w.heap.size) (hn₁ : 3 ≤ n₀)
  (hc : w.cell? ⟨Bn, 0, none⟩ = some (.string s)) :
  SeqStopsK Fence.wide n Tryz.prog 191 #[.pointer (some ⟨Bn, 0, none⟩)] (fun x : Seg => #[Value.string x.1]) (Below n₀) (fun ys => bare ys = splitC (behind1 s) 47) (fun _ => True) (splitC (behind1 s) 47).length w := fun l J Jx W hW hJ _ hY h0 =>
 each1_in n hn l Bn n₀ s hh hs hn₁ J Jx hY W hJ (hg.beyond hW) ((hW.cell (p := ⟨Bn, 0, none⟩) hB).trans hc) h0
theorem each_any (s : ByteArray) (w : World) :
  Calls Tryz.prog 148 #[.string s] w fun e w' => e = .returned (.func (.func 191) #[] #[.pointer (some ⟨w.heap.size, 0, none⟩)]) ∧ w' = w.alloc (.cells #[.string s] 9) := by
 have hmf : ∀ (fn : Fn) (first cap : Array Value) (w : World), (Instr.makeFunc fn first cap).run Tryz.prog w = .ok (.func fn first cap) w := fun _ _ _ _ => rfl
 go_enter Tryz.func148, Tryz.ntmps148
 go_wp2
 go_ret
 exact ⟨rfl, rfl⟩
end Go.Proofs.YtbnafbdhomdcoaaGreatDoor.T5
namespace Go.Proofs.YtbnafbdhomdcoaaGreatDoor.T5
open Go.RowKit Go.Shelf Go.Lib
attribute [local go_sem] Oper.semAt_some
end Go.Proofs.YtbnafbdhomdcoaaGreatDoor.T5
namespace Go.Proofs.YtbnafbdhomdcoaaGreatDoor.T5
open Go.RowKit Go.Shelf Go.Lib
attribute [local go_sem] Oper.semAt_some
theorem normR_no {s : ByteArray} (h : isPathB s = false) : normR s = (⟨#[]⟩, 53) := by unfold normR; rw [if_neg (by rw [h]; simp)]
theorem normR_yes {s : ByteArray} (h : isPathB s = true) : normR s = (pathOf (keptR (splitC (behind1 (plainT s)) 47)), 0) := by unfold normR; rw [if_pos h]
theorem path_heads {s : ByteArray} (h : isPathB s = true) : heads s 47 = true := by
 rw [isPath_heads] at h
 simp at h
 exact h.1
theorem plain_heads {s : ByteArray} (h : heads s 47 = true) : heads (plainT s) 47 = true := by
 unfold heads at h
 simp only [Bool.and_eq_true, decide_eq_true_eq] at h
 obtain ⟨h0, h1⟩ := h
 have ht : tri s 0 = false := by
  cases e : tri s 0
  ·rfl
  ·have := (tri_iff.1 e).2
   omega
 have e1 := plF_on (acc := []) h0 ht
 rw [plF_acc s s.size 1 _ (by omega)] at e1
 have hd : (plainT s).data.toList = byteAt s 0 :: plF s 1 [] := e1
 unfold heads
 have hz : 0 < (plainT s).size := by rw [← size_eq, hd]; simp
 have hb : bt (plainT s) 0 = 47 := by
  unfold bt
  rw [hd]
  exact h1
 rw [decide_eq_true hz, decide_eq_true hb]
 rfl
theorem dot_test (y : ByteArray) : (y.toList == [46]) = decide (y = dotT) := by rw [← eq_str]; rw [show dotT.toList = [46] by decide +kernel]
theorem dots_test (y : ByteArray) : (y.toList == [46, 46]) = decide (y = dotsT) := by rw [← eq_str]; rw [show dotsT.toList = [46, 46] by decide +kernel]
theorem boxed_at {β : Type} (B : Nat) (t : TypeId) (f : β → Value) : Own (fun s W => Boxed W B t (f s)) := fun s A W row hs hg hr => hs.kept hg (fun e' => by
 obtain ⟨o, ho, hc⟩ := hr B e'.symm
 rw [show A.heap[B]? = _ from hs] at ho
 cases ho
 cases hc)
def normVal (s : ByteArray) : Value := .tuple #[.string (normR s).1, .int .i64 (normR s).2]
set_option maxRecDepth 100000 in
set_option maxHeartbeats 4000000 in
theorem Normal_no (s : ByteArray) (w : World) (hs : s.size ≤ 4194304) (hp : isPathB s = false) :
  Calls Tryz.prog 97 #[.string s] w fun e w' => e = .returned (normVal s) ∧ Below w.heap.size w w' := by
 have HP := Lib.hid (fun w => isPath_any s w (by omega))
 unfold normVal
 rw [normR_no hp]
 rw [hp] at HP
 clear hp
 go_enter Tryz.func97, Tryz.ntmps97
 go_wp2_with fail
 refine (HP.out _).mono ?_
 rintro e w1 ⟨rfl, q, rfl⟩
 go_wp2
 go_ret2
 exact ⟨rfl, below_drewN (Below.refl _ _) q⟩
set_option maxRecDepth 100000 in
set_option maxHeartbeats 8000000 in
theorem Normal_yes (s : ByteArray) (w : World) (hs : s.size ≤ 4194304) (hg : Glob w) (hp : isPathB s = true) :
  Calls Tryz.prog 97 #[.string s] w fun e w' => e = .returned (normVal s) ∧ Below w.heap.size w w' := by
 obtain ⟨i0, hi0, hz0, hz1, hz2⟩ := info_parts info_string
 have HP := Lib.hid (fun w => isPath_any s w (by omega))
 have HH := Lib.hid (plain_heads (path_heads hp))
 have hps := plainT_size s
 unfold normVal
 rw [normR_yes hp]
 rw [hp] at HP
 clear hp
 have HPL := Lib.hid (show plainT s = ⟨(plF s 0 []).toArray⟩ from rfl)
 refine (callsIn_wide (n := 8)).1 ?_
 refine callsIn_of_wp_marks Tryz.func97 rfl trivial ?_ rfl
 simp only [Tryz.ntmps97, List.size_toArray, List.length_cons, List.length_nil, Nat.reduceAdd, Nat.reduceSub, Array.replicate_succ, Array.replicate_zero, List.push_toArray, List.append_toArray, List.nil_append, List.cons_append]
 gi_wp2_with fail
 refine ⟨trivial, (callsIn_wide.2 (HP.out _)).mono ?_⟩
 rintro e w1 ⟨rfl, q, rfl⟩
 gi_wp2_with fail
 gi_loopw [5] (fun v wr => ∃ (k : Nat) (acc : List UInt8), k ≤ s.size ∧ v = .int .i64 k ∧ acc.length ≤ k ∧ plF s k acc = plF s 0 [] ∧ Lib.IsBuilderF 145 5 w.heap.size w.heap.size (Lib.byteCells acc) wr ∧ Below w.heap.size w wr ∧ w.heap.size < wr.heap.size) (fun v _ => s.size - (RowKit.intOf v).toNat)
 case atStart => exact ⟨0, [], by omega, rfl, by simp, rfl, Lib.IsBuilderF.of (Lib.fresh_isBuilder 145 5 (w.drewN q)), (below_drewN (Below.refl _ w) q).alloc (Nat.le_refl _) _, by simp⟩
 case round =>
  obtain ⟨k, acc, hk, rfl, hal, hpl, hI, hbw, hsz⟩ := hrel
  have HL := Lib.hid hpl
  have HI := Lib.hid hI
  clear hpl hI
  by_cases hlt : k < s.size
  ·have hb := @bt_eq s k hlt
   have HT := Lib.hid (triple_any s k wr (by omega) hk)
   cases ht : tri s k
   ·have HS := Lib.hid ((plF_on (acc := acc) hlt ht).symm.trans HL.out)
    gi_wp2_with fail
    refine ⟨trivial, (callsIn_wide.2 HT.out).mono ?_⟩
    rintro e w1 ⟨v, rfl, _, q2, rfl⟩
    rw [ht]
    clear ht
    gi_wp2_with fail
    have hI1 := builder_below HI.out (below_drewN (Below.refl _ _) q2)
    refine ⟨trivial, (callsIn_wide.2 (WriteByte_k w.heap.size w.heap.size _ _ _ hI1 (by rw [Lib.byteCells_length]; omega) (by have := hbw.size; exact this))).mono ?_⟩
    rintro e w2 ⟨rfl, h2, b2, _⟩
    have hI2 : Lib.IsBuilderF 145 5 w.heap.size w.heap.size (Lib.byteCells (acc ++ [byteAt s k])) w2 := .inr (by
     rw [Lib.byteCells_append]
     exact h2)
    have hbw2 : Below w.heap.size w w2 := (below_drewN hbw q2).trans b2
    have hsz2 : w.heap.size < w2.heap.size := Nat.lt_of_lt_of_le hsz b2.size
    have HI2 := Lib.hid hI2
    clear h2 hI1 hI2
    gi_wp2
    go_roundw
    case rel => exact ⟨k + 1, acc ++ [byteAt s k], by omega, by go_num, by rw [List.length_append]; exact Nat.add_le_add hal (Nat.le_refl 1), HS.out, HI2.out, hbw2, hsz2⟩
    case measure => simp [RowKit.intOf]; omega
   ·have HS := Lib.hid ((plF_tri (acc := acc) ht).symm.trans HL.out)
    have h3 := (tri_iff.1 ht).1
    have hone := class_one (triB s k).toNat
    have HC := Lib.hid (fun w => class_any (triB s k).toNat w (by omega) (by have := (triB s k).toNat_lt; omega))
    have HTT := Lib.hid ht
    have HV := Lib.hid (triB_bt ht)
    clear ht
    cases hu : unres ((triB s k).toNat : Int)
    ·have HB := Lib.hid (show encB (triB s k) = pct (triB s k) by unfold encB; rw [if_neg (by rw [hu]; simp)])
     have HPC := Lib.hid (fun w => percent_any (triB s k) w)
     rw [hu] at hone
     clear hu
     gi_wp2_with fail
     refine ⟨trivial, (callsIn_wide.2 HT.out).mono ?_⟩
     rintro e w1 ⟨v, rfl, hv, q2, rfl⟩
     have hv := hv HTT.out
     rw [← HV.out] at hv
     rw [HTT.out, hv]
     clear hv
     gi_wp2_with fail
     refine ⟨trivial, (callsIn_wide.2 (HC.out _)).mono ?_⟩
     rintro e w1 ⟨rfl, rfl⟩
     gi_wp2_with fail
     refine ⟨trivial, (callsIn_wide.2 (HPC.out _)).mono ?_⟩
     rintro e w1 ⟨rfl, q3, rfl⟩
     gi_wp2_with fail
     have hI1 := builder_below HI.out (below_drewN (Below.refl _ wr) (q2 + q3))
     refine ⟨trivial, (callsIn_wide.2 (WriteString_k w.heap.size w.heap.size _ _ _ hI1 (by rw [Lib.byteCells_length, ← size_eq]; have : (pct (triB s k)).length = 3 := rfl; simp only; omega) (by have := hbw.size; exact this))).mono ?_⟩
     rintro e w2 ⟨rfl, h2, b2, _⟩
     have hI2 : Lib.IsBuilderF 145 5 w.heap.size w.heap.size (Lib.byteCells (acc ++ encB (triB s k))) w2 := .inr (by
      rw [HB.out, Lib.byteCells_append]
      exact h2)
     have hbw2 : Below w.heap.size w w2 := (below_drewN hbw (q2 + q3)).trans b2
     have hsz2 : w.heap.size < w2.heap.size := Nat.lt_of_lt_of_le hsz b2.size
     have hel := (encB_len (triB s k)).2
     have HI2 := Lib.hid hI2
     clear h2 hI1 hI2
     gi_wp2
     go_roundw
     case rel => exact ⟨k + 3, acc ++ encB (triB s k), by omega, by go_num, by rw [List.length_append]; omega, HS.out, HI2.out, hbw2, hsz2⟩
     case measure => simp [RowKit.intOf]; omega
    ·have HB := Lib.hid (show encB (triB s k) = [triB s k] by unfold encB; rw [if_pos hu])
     rw [hu] at hone
     clear hu
     gi_wp2_with fail
     refine ⟨trivial, (callsIn_wide.2 HT.out).mono ?_⟩
     rintro e w1 ⟨v, rfl, hv, q2, rfl⟩
     have hv := hv HTT.out
     rw [← HV.out] at hv
     rw [HTT.out, hv]
     clear hv
     gi_wp2_with fail
     refine ⟨trivial, (callsIn_wide.2 (HC.out _)).mono ?_⟩
     rintro e w1 ⟨rfl, rfl⟩
     gi_wp2_with fail
     have hI1 := builder_below HI.out (below_drewN (Below.refl _ wr) q2)
     refine ⟨trivial, (callsIn_wide.2 (WriteByte_k w.heap.size w.heap.size _ _ _ hI1 (by rw [Lib.byteCells_length]; omega) (by have := hbw.size; exact this))).mono ?_⟩
     rintro e w2 ⟨rfl, h2, b2, _⟩
     have hI2 : Lib.IsBuilderF 145 5 w.heap.size w.heap.size (Lib.byteCells (acc ++ encB (triB s k))) w2 := .inr (by
      rw [HB.out, Lib.byteCells_append]
      exact h2)
     have hbw2 : Below w.heap.size w w2 := (below_drewN hbw q2).trans b2
     have hsz2 : w.heap.size < w2.heap.size := Nat.lt_of_lt_of_le hsz b2.size
     have hel := (encB_len (triB s k)).2
     have HI2 := Lib.hid hI2
     clear h2 hI1 hI2
     gi_wp2
     go_roundw
     case rel => exact ⟨k + 3, acc ++ encB (triB s k), by omega, by go_num, by rw [List.length_append]; omega, HS.out, HI2.out, hbw2, hsz2⟩
     case measure => simp [RowKit.intOf]; omega
  ·obtain rfl : k = s.size := by omega
   have HE := Lib.hid ((plF_end (s := s) (acc := acc) (Nat.le_refl _)).symm.trans HL.out)
   gi_wp2_with fail
   have b0 : Below wr.heap.size wr ((wr.alloc (.cells #[.slice none 0 0] 22)).alloc (.cells #[.bool false] 4)) := ((Below.refl _ wr).alloc (Nat.le_refl _) _).alloc (by simp) _
   have hI0 := builder_below HI.out b0
   refine ⟨trivial, (callsIn_wide.2 (Tryz.Builder_String_any_k w.heap.size w.heap.size _ _ hI0 (by simp; omega))).mono ?_⟩
   rintro e W1 ⟨rfl, _, b1, ko1⟩
   have bO := Boxed.new wr 22 (.slice none 0 0)
   have bD := Boxed.new (wr.alloc (.cells #[.slice none 0 0] 22)) 4 (.bool false)
   rw [World.size_alloc] at bD
   have bK1 : Boxed W1 wr.heap.size 22 (.slice none 0 0) := ko1 _ _ (bO.alloc _) (by simp; omega) (fun c fz e => by injection e with _ e _; exact absurd e (by decide))
   have bD1 : Boxed W1 (wr.heap.size + 1) 4 (.bool false) := ko1 _ _ bD (by simp; omega) (fun c fz e => by injection e with _ e _; exact absurd e (by decide))
   rw [show (⟨acc.toArray⟩ : ByteArray) = plainT s by rw [HPL.out, HE.out]]
   have hB1 : Below w.heap.size w W1 := (hbw.trans (b0.mono hbw.size)).trans b1
   have hsz1 : wr.heap.size + 1 < W1.heap.size := bD1.lt
   clear bO bD b0 b1 ko1 hI0 HI HL HE HPL hal hbw
   clear hk hlt
   have hpt : (plainT s).size ≤ 4194304 := by omega
   clear hps
   generalize hgt : plainT s = t at *
   have HGT := Lib.hid hgt
   clear hgt
   gi_wp2_with fail
   refine ⟨trivial, (callsIn_wide.2 (each_any t _)).mono ?_⟩
   rintro e w2 ⟨rfl, rfl⟩
   gi_wp2_with fail
   have bN := Boxed.new W1 9 (.string t)
   have hB2 : Below w.heap.size w (W1.alloc (.cells #[.string t] 9)) := hB1.alloc hB1.size _
   refine wpIn_rangeFunc_ownG rfl (by omega) (gf := 191) (lb := #[.pointer (some ⟨W1.heap.size, 0, none⟩)]) rfl trivial (enters_of Tryz.func191 (by kernel_rfl) rfl)
    (each_stops (8 - 1) (by omega) W1.heap.size w.heap.size t HH.out hpt _ (hg.beyond hB2) (by simp) hg.size bN.cell) belowK_t (belowK_b (by simp; omega)) (Below.refl _ _) (fun _ => rfl)
    (fun pre W => ((∃ v, Boxed W wr.heap.size 22 v ∧ W.ownsRow w.heap.size 9 1 v (keepAll [] (bare pre)).length ((keepAll [] (bare pre)).map Value.string) ∧ True) ∧ Boxed W (wr.heap.size + 1) 4 (.bool (lastDots false (bare pre)))) ∧ Below w.heap.size w W)
    (fun _ _ _ => False)
    (OwnFrom.and (OwnFrom.and (Own.from (holdsRow_own w.heap.size wr.heap.size 22 9 1 (fun pre => (keepAll [] (bare pre)).length) (fun pre => (keepAll [] (bare pre)).map Value.string) (fun _ _ => True)) _) (Own.from (boxed_at (wr.heap.size + 1) 4 (fun pre => .bool (lastDots false (bare pre)))) _)) (ownFrom_below (Nat.le_refl _) (by simp; omega)))
    (fun _ _ _ _ _ hs _ _ => hs)
    ⟨⟨⟨_, bK1.alloc _, World.ownsRow_nil _ _ _ _, trivial⟩, bD1.alloc _⟩, hB2⟩
    (fun x => { tmps := #[.string s, undef, .string ⟨#[]⟩, .int .i64 0, .pointer (some ⟨w.heap.size, 0, none⟩), .int .i64 s.size, u6, u7, .pointer (some ⟨wr.heap.size, 0, none⟩), .pointer (some ⟨wr.heap.size + 1, 0, none⟩), .string x.1, .string s, .bool true, .bool false, .int .i64 s.size, .string s, .int .i64 s.size, .bool false, u18, u19, u20, u21, u22, u23, u24, u25, u26, u27, u28, u29, u30, u31, u32, u33, u34, u35, u36, u37, u38, u39, u40, u41, u42, u43, .string t, .func (.func 191) #[] #[.pointer (some ⟨W1.heap.size, 0, none⟩)], .string x.1, undef, undef, undef, undef, undef, undef, undef, undef, undef, undef, undef, undef, undef, undef, undef, undef, undef, undef, undef, undef, undef, undef, undef, undef, undef, undef, undef, undef, undef, undef, undef, undef, undef], defers := [] }) ?assign ?body ?done ?stop
   case assign =>
    intro l x W K hK
    gi_wp2
    exact hK
   case body =>
    rintro l pre ⟨y, hy⟩ W ⟨⟨⟨v, hv, hrow, _⟩, hd⟩, hB⟩ hlt
    dsimp only
    have hkl : (keepAll [] (bare pre)).length ≤ 4194304 := by
     have h1 := (keepAll_sum (bare pre) []).2
     have h2 := splitC_len (behind1 t) 47
     have h3 : (behind1 t).size ≤ t.size := by unfold behind1; rw [ByteArray.size_extract]; omega
     rw [bare_length] at h1
     simp only [List.length_nil] at h1
     omega
    have HS := Lib.hid (show keepAll [] (bare (pre ++ [⟨y, hy⟩])) = keepOne (keepAll [] (bare pre)) y by rw [bare_snoc, keepAll_snoc])
    have HD := Lib.hid (show lastDots false (bare (pre ++ [⟨y, hy⟩])) = isDots y by rw [bare_snoc, lastDots_snoc])
    generalize keepAll [] (bare pre) = kl at *
    generalize lastDots false (bare pre) = ld at *
    have hcd := hd.cell
    have hfd := hd.frozen
    have t1 := dot_test y
    have t2 := dots_test y
    have hKB : w.heap.size ≤ wr.heap.size := by omega
    by_cases hy2 : y = dotsT
    ·have hy1 : ¬ y = dotT := by rw [hy2]; decide
     rw [decide_eq_false hy1] at t1
     rw [decide_eq_true hy2] at t2
     have HD2 := Lib.hid (show isDots y = true by unfold isDots; rw [decide_eq_true hy2]; simp)
     have HS2 := Lib.hid (show keepOne kl y = kl.dropLast by unfold keepOne; rw [if_pos hy2])
     clear hy1 hy2
     have hd2 := hd.set (.bool true)
     have hv2 := hv.kept (grownBy_setCell' W (wr.heap.size + 1) (.bool true)) (by simp)
     have hrow2 := hrow.kept (grownBy_setCell' W (wr.heap.size + 1) (.bool true)) (.inr (hd.not_row (by decide) hrow).symm)
     have hB3 := hB.setCell (p := ⟨wr.heap.size + 1, 0, none⟩) (show w.heap.size ≤ wr.heap.size + 1 by omega) (.bool true)
     have hcv := hv2.cell
     have hfv := hv2.frozen
     rcases List.eq_nil_or_concat kl with hk0 | ⟨kl', z, hk0⟩
     ·subst hk0
      obtain ⟨A, c, rfl⟩ := own_slice hrow
      clear hd hv hrow
      gi_wp2
      exact ⟨(KeepsOthers.setCell _ _ _).from _, (Below.refl w.heap.size W).setCell (p := ⟨wr.heap.size + 1, 0, none⟩) (show w.heap.size ≤ wr.heap.size + 1 by omega) _, ⟨⟨_, hv2, by rw [HS.out, HS2.out]; exact hrow2, trivial⟩, by rw [HD.out, HD2.out]; exact hd2⟩, hB3⟩
     ·rw [List.concat_eq_append] at hk0
      subst hk0
      have hle : (kl' ++ [z]).length = kl'.length + 1 := by simp
      rw [hle] at hrow hrow2 hkl
      rw [List.map_append] at hrow2
      have HS3 := Lib.hid (show (kl' ++ [z]).dropLast = kl' by simp)
      obtain ⟨g, cap, rfl⟩ := ownsRow_succ hrow
      have hcap := own_cap hrow
      have hp := ownsRow_pop (by rw [List.length_map, Nat.mul_one]) hrow2
      have hv3 := hv2.set (.slice (some ⟨g, 0, none⟩) kl'.length cap)
      have hd3 := hd2.kept (grownBy_setCell' (W.setCell ⟨wr.heap.size + 1, 0, none⟩ (.bool true)) wr.heap.size (.slice (some ⟨g, 0, none⟩) kl'.length cap)) (by simp)
      have hrow3 := hp.kept (grownBy_setCell' (W.setCell ⟨wr.heap.size + 1, 0, none⟩ (.bool true)) wr.heap.size (.slice (some ⟨g, 0, none⟩) kl'.length cap)) (.inr (hv2.not_row (by decide) hp).symm)
      have hB4 := hB3.setCell (p := ⟨wr.heap.size, 0, none⟩) hKB (.slice (some ⟨g, 0, none⟩) kl'.length cap)
      clear hd hv hrow hrow2 hle hp
      gi_wp2
      exact ⟨((KeepsOthers.setCell _ _ _).trans (KeepsOthers.setCell _ _ _)).from _, ((Below.refl w.heap.size W).setCell (p := ⟨wr.heap.size + 1, 0, none⟩) (show w.heap.size ≤ wr.heap.size + 1 by omega) _).setCell (p := ⟨wr.heap.size, 0, none⟩) hKB _, ⟨⟨_, hv3, by rw [HS.out, HS2.out, HS3.out]; exact hrow3, trivial⟩, by rw [HD.out, HD2.out]; exact hd3⟩, hB4⟩
    ·rw [decide_eq_false hy2] at t2
     by_cases hy1 : y = dotT
     ·rw [decide_eq_true hy1] at t1
      have HD2 := Lib.hid (show isDots y = true by unfold isDots; rw [decide_eq_true hy1]; simp)
      have HS2 := Lib.hid (show keepOne kl y = kl by unfold keepOne; rw [if_neg hy2, if_pos hy1])
      clear hy1 hy2
      have hd2 := hd.set (.bool true)
      have hv2 := hv.kept (grownBy_setCell' W (wr.heap.size + 1) (.bool true)) (by simp)
      have hrow2 := hrow.kept (grownBy_setCell' W (wr.heap.size + 1) (.bool true)) (.inr (hd.not_row (by decide) hrow).symm)
      have hB3 := hB.setCell (p := ⟨wr.heap.size + 1, 0, none⟩) (show w.heap.size ≤ wr.heap.size + 1 by omega) (.bool true)
      have hcd2 := hd2.cell
      clear hd hv hrow
      gi_wp2
      exact ⟨(KeepsOthers.setCell _ _ _).from _, (Below.refl w.heap.size W).setCell (p := ⟨wr.heap.size + 1, 0, none⟩) (show w.heap.size ≤ wr.heap.size + 1 by omega) _, ⟨⟨_, hv2, by rw [HS.out, HS2.out]; exact hrow2, trivial⟩, by rw [HD.out, HD2.out]; exact hd2⟩, hB3⟩
     ·rw [decide_eq_false hy1] at t1
      have HD2 := Lib.hid (show isDots y = false by unfold isDots; rw [decide_eq_false hy1, decide_eq_false hy2]; rfl)
      have HS2 := Lib.hid (show keepOne kl y = kl ++ [y] by unfold keepOne; rw [if_neg hy2, if_neg hy1])
      clear hy1 hy2
      have hd2 := hd.set (.bool false)
      have hv2 := hv.kept (grownBy_setCell' W (wr.heap.size + 1) (.bool false)) (by simp)
      have hrow2 := hrow.kept (grownBy_setCell' W (wr.heap.size + 1) (.bool false)) (.inr (hd.not_row (by decide) hrow).symm)
      have hB3 := hB.setCell (p := ⟨wr.heap.size + 1, 0, none⟩) (show w.heap.size ≤ wr.heap.size + 1 by omega) (.bool false)
      have hcv := hv2.cell
      have hcd2 := hd2.cell
      have hko3 := KeepsOthers.setCell W ⟨wr.heap.size + 1, 0, none⟩ (.bool false)
      have hbb3 := (Below.refl w.heap.size W).setCell (p := ⟨wr.heap.size + 1, 0, none⟩) (show w.heap.size ≤ wr.heap.size + 1 by omega) (.bool false)
      have HN := Lib.hid (show ∀ j u, [Value.string y][j]? = some u → ((W.setCell ⟨wr.heap.size + 1, 0, none⟩ (.bool false)).alloc (.cells #[.string y] 9)).cell? ((⟨W.heap.size, 0, none⟩ : Addr).add j) = some u by
       have h := cell_one_new (W.setCell ⟨wr.heap.size + 1, 0, none⟩ (.bool false)) (.string y) 9
       rwa [World.size_setCell] at h)
      clear hd hv hrow
      gi_wp2_with (gi_at_builtin; refine wpListIn_append_own _ rfl _ _ 22 rfl w.heap.size 9 i0 (.string ⟨#[]⟩) 1 16 Tryz.underlying22 hi0 hz0 hz1 hz2 rfl (by decide) _ _ _ rfl (hrow2.alloc _) ⟨W.heap.size, 0, none⟩ 1 1 [.string y] rfl rfl HN.out (by simp [Value.oneCell']) (by unfold maxLen; omega) (by omega) (by have := hB3.size; simp at this; simp; omega) ?_; intro v' w1 hown' hgrow _; obtain ⟨g', cap', rfl⟩ := ownsRow_succ hown'; obtain ⟨hv3, hv4, hr4, hk4, hb4⟩ := hv2.appended (by decide) hrow2 hB3.size hKB hown' hgrow; have hd4 := ((hd2.alloc _).kept hgrow (hd2.not_row (by decide) hrow2)).kept (grownBy_setCell' w1 wr.heap.size (.slice (some ⟨g', 0, none⟩) (kl.length + 1) cap')) (by simp); have hc1 := hv3.cell; have hf1 := hv3.frozen)
      exact ⟨(hko3.trans hk4).from _, hbb3.trans hb4, ⟨⟨_, hv4, by rw [HS.out, HS2.out]; simpa using hr4, trivial⟩, by rw [HD.out, HD2.out]; exact hd4⟩, hB3.trans hb4⟩
   case done =>
    rintro D ys W hD hys ⟨⟨⟨v, hv, hrow, _⟩, hd⟩, hB⟩ hK
    rw [hys] at hrow hd
    clear hys
    have hl0 := splitC_ne (behind1 t) 47
    have hl1 := splitC_sum 47 (behind1 t).size (behind1 t) (Nat.le_refl _)
    have hl2 := keptR_sum (splitC (behind1 t) 47)
    have hl3 := keptR_ne hl0
    have hl4 := join_len hl3
    have hb1 : (behind1 t).size ≤ t.size := by unfold behind1; rw [ByteArray.size_extract]; omega
    have hjl : (Lib.join ((keptR (splitC (behind1 t) 47)).map (·.data.toList)) [47]).length ≤ 8388610 := by omega
    have hkl : (keptR (splitC (behind1 t) 47)).length ≤ 4194306 := by omega
    have HJ := Lib.hid (join_path hl3)
    have hjs : (⟨(Lib.join ((keptR (splitC (behind1 t) 47)).map (·.data.toList)) [47]).toArray⟩ : ByteArray).size ≤ 8388610 := by rw [← size_eq]; exact hjl
    cases hld : lastDots false (splitC (behind1 t) 47)
    ·have hkr : keepAll [] (splitC (behind1 t) 47) = keptR (splitC (behind1 t) 47) := by unfold keptR; rw [if_neg (by rw [hld]; simp)]
     rw [hkr] at hrow
     rw [hld] at hd
     clear hkr hld hl0 hl1 hl2 hl4 hb1
     generalize hkp : keptR (splitC (behind1 t) 47) = kept at *
     have HKP := Lib.hid hkp
     clear hkp
     have HC := Lib.hid (fun (W : World) (B c : Nat) (A : Option Addr) (h : W.ownsRow B 9 1 (.slice A kept.length c) kept.length (kept.map .string)) => Join_own h hl3 (by omega) (by omega))
     generalize (⟨(Lib.join (kept.map (·.data.toList)) [47]).toArray⟩ : ByteArray) = js at *
     clear hjl hl3
     obtain ⟨A, c, rfl⟩ := own_slice hrow
     have hcv := hv.cell
     have hcd := hd.cell
     gi_wp2_with fail
     refine ⟨trivial, (callsIn_wide.2 (HC.out _ _ _ _ hrow)).mono ?_⟩
     rintro e W2 ⟨rfl, b2⟩
     have hK2 := (KeepsOthers.of_grownBy (below_grown b2) (fun j o e => by cases e)).same D _ hK rfl
     have hB2' := hB.trans (b2.mono hB.size)
     clear b2
     gi_wp2
     refine ⟨by simp, .inl ⟨_, _, rfl, run_takeDeferred hK2, ?_⟩⟩
     exact ⟨.tuple #[.string (⟨#[47]⟩ ++ js), .int .i64 0], by simp [results, Tryz.results97, go_sem], by rw [HGT.out, HKP.out, HJ.out], hB2'.trans (belowK_b (w := w) (Nat.le_refl _) W2 D _ _ (by simp at hD; omega) hK2 rfl rfl)⟩
    ·have hkr : keptR (splitC (behind1 t) 47) = keepAll [] (splitC (behind1 t) 47) ++ [⟨#[]⟩] := by unfold keptR; rw [if_pos hld]
     rw [hld] at hd
     have HKR := Lib.hid hkr
     clear hkr hld hl0 hl1 hl2 hl4 hb1
     generalize keepAll [] (splitC (behind1 t) 47) = kl at *
     generalize hkp : keptR (splitC (behind1 t) 47) = kept at *
     have HKP := Lib.hid hkp
     clear hkp
     have hkl1 : kl.length + 1 = kept.length := by rw [HKR.out]; simp
     have HC := Lib.hid (fun (W : World) (B c : Nat) (A : Option Addr) (h : W.ownsRow B 9 1 (.slice A kept.length c) kept.length (kept.map .string)) => Join_own h hl3 (by omega) (by omega))
     generalize (⟨(Lib.join (kept.map (·.data.toList)) [47]).toArray⟩ : ByteArray) = js at *
     clear hjl hl3
     have hcv := hv.cell
     have hcd := hd.cell
     have HW := Lib.hid hK
     gi_wp2_with (gi_at_builtin; refine wpListIn_append_own _ rfl _ _ 22 rfl w.heap.size 9 i0 (.string ⟨#[]⟩) 1 16 Tryz.underlying22 hi0 hz0 hz1 hz2 rfl (by decide) _ _ _ rfl (hrow.alloc _) ⟨W.heap.size, 0, none⟩ 1 1 [.string ⟨#[]⟩] rfl rfl (cell_one_new _ _ _) (by simp [Value.oneCell']) (by unfold maxLen; omega) (by omega) (by have := hB.size; simp; omega) ?_; intro v' w1 hown' hgrow _; obtain ⟨g', cap', rfl⟩ := ownsRow_succ hown'; obtain ⟨hv3, hv4, hr4, hk4, hb4⟩ := hv.appended (by decide) hrow hB.size (show w.heap.size ≤ wr.heap.size by omega) hown' hgrow; have hc1 := hv3.cell; have hf1 := hv3.frozen; have hc4 := hv4.cell)
     have hr5 : (w1.setCell ⟨wr.heap.size, 0, none⟩ (.slice (some ⟨g', 0, none⟩) (kl.length + 1) cap')).ownsRow w.heap.size 9 1 (.slice (some ⟨g', 0, none⟩) kept.length cap') kept.length (kept.map .string) := by
      rw [← hkl1, HKR.out, List.map_append]
      exact hr4
     rw [hkl1] at hr5 hk4 hb4
     have hK4 := hk4.same D _ HW.out rfl
     have hB4 := hB.trans hb4
     refine ⟨trivial, (callsIn_wide.2 (HC.out _ _ _ _ hr5)).mono ?_⟩
     rintro e W2 ⟨rfl, b2⟩
     have hK2 := (KeepsOthers.of_grownBy (below_grown b2) (fun j o e => by cases e)).same D _ hK4 rfl
     have hB2' := hB4.trans (b2.mono hB4.size)
     clear b2 hr5 hk4 hb4 hr4 hc1 hf1 hc4
     gi_wp2
     refine ⟨by simp, .inl ⟨_, _, rfl, run_takeDeferred hK2, ?_⟩⟩
     exact ⟨.tuple #[.string (⟨#[47]⟩ ++ js), .int .i64 0], by simp [results, Tryz.results97, go_sem], by rw [HGT.out, HKP.out, HJ.out], hB2'.trans (belowK_b (w := w) (Nat.le_refl _) W2 D _ _ (by simp at hD; omega) hK2 rfl rfl)⟩
   case stop =>
    rintro D c pre W _ _ h _
    exact h.elim
theorem Normal_any (s : ByteArray) (w : World) (hs : s.size ≤ 4194304) (hg : Glob w) :
  Calls Tryz.prog 97 #[.string s] w fun e w' => e = .returned (normVal s) ∧ Below w.heap.size w w' := by
 cases hp : isPathB s
 ·exact Normal_no s w hs hp
 ·exact Normal_yes s w hs hg hp
end Go.Proofs.YtbnafbdhomdcoaaGreatDoor.T5
