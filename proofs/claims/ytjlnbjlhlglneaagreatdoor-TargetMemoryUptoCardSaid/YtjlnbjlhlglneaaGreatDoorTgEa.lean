/-
  The segments of a path, one after another: the iterator.
-/
import Derived.RangeFuncNested
import Derived.RangeFuncBound
import Derived.RangeFuncCalls
import Derived.RangeFuncLeaves
import Derived.Shelf.Abstract
import Derived.Shelf.RegionOpen
import Derived.WalkKit
import Derived.OwnWalkIn
import Derived.TacticsInMore
import Derived.LoopNIn
import Derived.LoopIn
import Derived.Test.YtjlnbjlhlglneaaGreatDoorTgIp
import Derived.Test.YtjlnbjlhlglneaaGreatDoorTgN
namespace Go.Proofs.YtjlnbjlhlglneaaGreatDoor
open Go.RowKit Go.Shelf Go.Lib
attribute [local go_sem] Oper.semAt_some

abbrev Seg := { x : ByteArray // x.size ≤ 4194304 }
def bare (l : List Seg) : List ByteArray := l.map (·.1)
theorem bare_snoc (l : List Seg) (x : Seg) : bare (l ++ [x]) = bare l ++ [x.1] := by simp [bare]
theorem bare_length (l : List Seg) : (bare l).length = l.length := by simp [bare]
def moreOf : Value → Nat
  | .bool true => 1
  | _ => 0
def textOf : Value → Nat
  | .string t => t.size
  | _ => 0
/-- What is still to come. -/
def OnWay (segs : List ByteArray) (J : List Seg → World → Prop) (v m : Value) (wr : World) : Prop :=
  ∃ (pre : List Seg) (t : ByteArray) (b : Bool), v = .string t ∧ m = .bool b ∧ (if b = true then bare pre ++ splitC t 47 = segs else bare pre = segs) ∧ J pre wr ∧ Glob wr ∧ t.size ≤ 4194304
theorem below_grown {w w' : World} (hb : Below w.heap.size w w') : w.grownBy w' none := ⟨hb.os, hb.tape, hb.output, hb.size, fun k hk _ => hb.block k hk⟩
set_option maxRecDepth 100000 in
set_option maxHeartbeats 4000000 in
theorem each1_in (n : Nat) (hn : 1 ≤ n) (l Bn n₀ : Nat) (s : ByteArray) (hh : heads s 47 = true) (hs : s.size ≤ 4194304) (hn₀ : 4 ≤ n₀) (J Jx : List Seg → World → Prop)
    (hY : ∀ pre x W, J pre W → pre.length < (splitC (behind1 s) 47).length → YieldAt Fence.wide (n - 1) Tryz.prog l #[.string x.1] W fun e W' =>
      (e = .returned (.bool true) ∧ J (pre ++ [x]) W' ∧ Below n₀ W W') ∨ (e = .returned (.bool false) ∧ Jx (pre ++ [x]) W'))
    (W : World) (hJ : AbidesFrom W.heap.size J) (hg : Glob W) (hBn : W.cell? ⟨Bn, 0, none⟩ = some (.string s)) (h0 : J [] W) :
    CallsIn Fence.wide n Tryz.prog 76 #[.func (.yield l) #[] #[], .pointer (some ⟨Bn, 0, none⟩)] W fun e W' => (∃ v, e = .returned v) ∧
      ((∃ ys, bare ys = splitC (behind1 s) 47 ∧ J ys W') ∨ (∃ pre, True ∧ Jx pre W')) := by
  have HC := Lib.hid (CutPrefix_any s W hh hs)
  have hz : (behind1 s).size ≤ 4194304 := by unfold behind1; rw [ByteArray.size_extract]; omega
  obtain ⟨segs, hsegs⟩ : ∃ segs, splitC (behind1 s) 47 = segs := ⟨_, rfl⟩
  rw [hsegs] at hY ⊢
  have HSG := Lib.hid hsegs
  clear hsegs hh
  generalize behind1 s = t0 at *
  refine callsIn_of_wp Tryz.func76 rfl trivial ?_ rfl
  simp only [Tryz.ntmps76, List.size_toArray, List.length_cons, List.length_nil, Nat.reduceAdd, Nat.reduceSub, Array.replicate_succ, Array.replicate_zero, List.push_toArray, List.append_toArray, List.nil_append, List.cons_append]
  gi_wp2_with fail
  refine ⟨trivial, (callsIn_wide.2 HC.out).mono ?_⟩
  rintro e w1 ⟨rfl, rfl⟩
  gi_wp2
  gi_loopw [3, 4] (fun v m wr => OnWay segs J v m wr) (fun v m _ => textOf v + moreOf m)
  case atStart => exact ⟨[], t0, true, rfl, rfl, HSG.out, h0, hg, hz⟩
  case round =>
    obtain ⟨pre, t, b, rfl, rfl, hseg, hJr, hgr, htz⟩ := hrel
    cases b
    · have HE := Lib.hid (show bare pre = segs from hseg)
      clear hseg
      gi_wp2
      go_end0
      exact ⟨⟨_, rfl⟩, .inl ⟨pre, HE.out, hJr⟩⟩
    · have HE := Lib.hid (show bare pre ++ splitC t 47 = segs from hseg)
      clear hseg
      have hlt : pre.length < segs.length := by
        have h1 := congrArg List.length HE.out
        have h2 := List.length_pos_iff.2 (splitC_ne t 47)
        rw [List.length_append, bare_length] at h1
        omega
      have HK := Lib.hid (Cut_any t 47 wr htz hgr)
      rw [show ((47 : UInt8).toNat : Int) = 47 from rfl] at HK
      unfold cutVal at HK
      have hJd : ∀ q, J pre (wr.drewN q) := fun q => hJ pre wr _ none hJr (below_grown (below_drewN (Below.refl _ _) q)) (fun r e => by cases e)
      have HJD := Lib.hid hJd
      clear hJd
      rcases place_spec t 47 with ⟨hp, _⟩ | ⟨k, hp, hk, _⟩
      · rw [cutW_miss hp] at HK
        dsimp only at HK
        have HS := Lib.hid (show bare (pre ++ [⟨t, htz⟩]) = segs by rw [bare_snoc, ← HE.out, splitC_miss hp])
        clear hp
        gi_wp2_with fail
        refine ⟨trivial, (callsIn_wide.2 HK.out).mono ?_⟩
        rintro e w1 ⟨rfl, q, rfl⟩
        obtain ⟨fn, tmps, assign, body, hy, hR⟩ := hY pre ⟨t, htz⟩ _ (HJD.out q) hlt
        dsimp only at hy
        gi_wp2
        refine hR.mono ?_
        rintro e W3 (⟨rfl, hJ3, hk3⟩ | ⟨rfl, hJx3⟩)
        · have hg3 := (hgr.drewN q).below hk3 hn₀
          gi_wp2
          go_roundw
          case rel => exact ⟨_, _, false, rfl, rfl, HS.out, hJ3, hg3, by decide⟩
          case measure =>
            have h00 : (⟨#[]⟩ : ByteArray).size = 0 := rfl
            simp [textOf, moreOf]
            omega
        · gi_wp2
          refine bodyPost_ret (results_none rfl _ _ _) rfl ?_
          exact ⟨⟨_, rfl⟩, .inr ⟨_, trivial, hJx3⟩⟩
      · rw [cutW_hit hk hp] at HK
        dsimp only at HK
        have hz1 := ext_size t (a := 0) (b := k) (by omega) (by omega)
        have hz2 := ext_size t (a := k + 1) (b := t.size) (by omega) (Nat.le_refl _)
        have hx : (t.extract 0 k).size ≤ 4194304 := by omega
        have hx2 : (t.extract (k + 1) t.size).size ≤ 4194304 := by omega
        have hx3 : (t.extract (k + 1) t.size).size < t.size := by omega
        have HS := Lib.hid (show bare (pre ++ [⟨t.extract 0 k, hx⟩]) ++ splitC (t.extract (k + 1) t.size) 47 = segs by rw [bare_snoc, ← HE.out, splitC_hit hk hp, List.append_assoc]; rfl)
        clear hp hz1 hz2
        generalize t.extract 0 k = a at *
        generalize t.extract (k + 1) t.size = r at *
        gi_wp2_with fail
        refine ⟨trivial, (callsIn_wide.2 HK.out).mono ?_⟩
        rintro e w1 ⟨rfl, q, rfl⟩
        obtain ⟨fn, tmps, assign, body, hy, hR⟩ := hY pre ⟨a, hx⟩ _ (HJD.out q) hlt
        dsimp only at hy
        gi_wp2
        refine hR.mono ?_
        rintro e W3 (⟨rfl, hJ3, hk3⟩ | ⟨rfl, hJx3⟩)
        · have hg3 := (hgr.drewN q).below hk3 hn₀
          gi_wp2
          go_roundw
          case rel => exact ⟨_, _, true, rfl, rfl, HS.out, hJ3, hg3, hx2⟩
          case measure => simp [textOf, moreOf]; omega
        · gi_wp2
          refine bodyPost_ret (results_none rfl _ _ _) rfl ?_
          exact ⟨⟨_, rfl⟩, .inr ⟨_, trivial, hJx3⟩⟩
theorem each_stops (n : Nat) (hn : 1 ≤ n) (Bn n₀ : Nat) (s : ByteArray) (hh : heads s 47 = true) (hs : s.size ≤ 4194304) (w : World) (hg : Glob w) (hB : Bn < w.heap.size) (hn₁ : 4 ≤ n₀)
    (hc : w.cell? ⟨Bn, 0, none⟩ = some (.string s)) :
    SeqStopsK Fence.wide n Tryz.prog 76 #[.pointer (some ⟨Bn, 0, none⟩)] (fun x : Seg => #[Value.string x.1]) (Below n₀) (fun ys => bare ys = splitC (behind1 s) 47) (fun _ => True) (splitC (behind1 s) 47).length w := fun l J Jx W hW hJ _ hY h0 =>
  each1_in n hn l Bn n₀ s hh hs hn₁ J Jx hY W hJ (hg.beyond hW) ((hW.cell (p := ⟨Bn, 0, none⟩) hB).trans hc) h0
theorem each_any (s : ByteArray) (w : World) :
    Calls Tryz.prog 45 #[.string s] w fun e w' => e = .returned (.func (.func 76) #[] #[.pointer (some ⟨w.heap.size, 0, none⟩)]) ∧ w' = w.alloc (.cells #[.string s] 9) := by
  have hmf : ∀ (fn : Fn) (first cap : Array Value) (w : World), (Instr.makeFunc fn first cap).run Tryz.prog w = .ok (.func fn first cap) w := fun _ _ _ _ => rfl
  go_enter Tryz.func45, Tryz.ntmps45
  go_wp2
  go_ret
  exact ⟨rfl, rfl⟩
end Go.Proofs.YtjlnbjlhlglneaaGreatDoor
