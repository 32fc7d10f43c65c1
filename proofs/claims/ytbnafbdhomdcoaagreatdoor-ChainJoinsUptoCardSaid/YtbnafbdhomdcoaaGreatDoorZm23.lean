/-
  TgQd, TgGr, TgGp, without what the claim does not reach.
-/
import Derived.Test.YtbnafbdhomdcoaaGreatDoorZm19
namespace Go.Proofs.YtbnafbdhomdcoaaGreatDoor.T5
open Go.RowKit Go.Shelf Go.Lib
theorem byteNum_bad {d : ByteArray} (h : ¬ (numR d 255 10).2 = 0) : byteNum d = false := by unfold byteNum; rw [decide_eq_false h]; rfl
theorem byteNum_ok {d : ByteArray} (h : (numR d 255 10).2 = 0) : byteNum d = ((itoaT (numR d 255 10).1).toList == d.toList) := by unfold byteNum; rw [decide_eq_true h, Bool.true_and, eq_str]
def NumsTo (l : List ByteArray) (k : Nat) : Prop := ∀ (j : Nat) x, j < k → l[j]? = some x → byteNum x = true
theorem NumsTo.succ {l : List ByteArray} {k : Nat} {x : ByteArray} (h : NumsTo l k) (hk : l[k]? = some x) (hx : byteNum x = true) : NumsTo l (k + 1) := fun j y hj hy => by
 by_cases e : j = k
 ·subst e
  rw [hk] at hy
  injection hy with hy
  rw [← hy]; exact hx
 ·exact h j y (by omega) hy
theorem quad_bad {s : ByteArray} {k : Nat} {x : ByteArray} (hk : (splitC s 46)[k]? = some x) (hx : byteNum x = false) : quad s = false := by
 unfold quad
 have : (splitC s 46).all byteNum = false := by
  rw [List.all_eq_false]
  exact ⟨x, List.mem_of_getElem? hk, by rw [hx]; simp⟩
 rw [this]
 rfl
theorem quad_end {s : ByteArray} (h : NumsTo (splitC s 46) (splitC s 46).length) : quad s = (((splitC s 46).length : Int) == 4) := by
 unfold quad
 have : (splitC s 46).all byteNum = true := List.all_eq_true.2 fun x hx => by
  obtain ⟨j, hj, rfl⟩ := List.getElem_of_mem hx
  exact h j _ hj (List.getElem?_eq_getElem hj)
 rw [this, Bool.true_and, Bool.eq_iff_iff, decide_eq_true_eq, beq_iff_eq]
 omega
theorem row_new (w : World) (l : List ByteArray) (t : TypeId) : Row (w.alloc (.cells (l.map Value.string).toArray t)) (some ⟨w.heap.size, 0, none⟩) (l.map .string) := row_newc w _ t rfl
set_option maxRecDepth 20000 in
set_option maxHeartbeats 2000000 in
theorem isDotted_any (s : ByteArray) (w : World) (hs : s.size ≤ 4194304) (hg : Glob w) :
  Calls Tryz.prog 235 #[.string s] w fun e w' => e = .returned (.bool (quad s)) ∧ Below w.heap.size w w' := by
 have HS := Lib.hid (Split_any s 46 w hs hg)
 have hbad := Lib.hid (fun (k : Nat) (x : ByteArray) (h1 : (splitC s 46)[k]? = some x) (h2 : byteNum x = false) => quad_bad h1 h2)
 have hend := Lib.hid (fun (h : NumsTo (splitC s 46) (splitC s 46).length) => quad_end h)
 have hsz := Lib.hid (fun x (hx : x ∈ splitC s 46) => splitC_size hx)
 have hln := splitC_len s 46
 rw [show ((46 : UInt8).toNat : Int) = 46 from rfl] at HS
 generalize splitC s 46 = l at *
 go_enter Tryz.func235, Tryz.ntmps235
 go_wp2_with fail
 refine HS.out.mono ?_
 rintro e w1 ⟨rfl, rfl⟩
 have hrow := row_new w l 9
 have hb1 : Below w.heap.size w (w.alloc (.cells (l.map Value.string).toArray 9)) := (Below.refl _ w).alloc (Nat.le_refl _) _
 have hg1 := hg.beyond hb1
 generalize w.alloc (.cells (l.map Value.string).toArray 9) = w1 at *
 go_wp2
 go_loopw [12] (fun v wr => ∃ k : Nat, k ≤ l.length ∧ v = .int .i64 k ∧ NumsTo l k ∧ Below w1.heap.size w1 wr) (fun v _ => l.length - (RowKit.intOf v).toNat)
 case atStart => exact ⟨0, by omega, rfl, fun j x hj => by omega, Below.refl _ _⟩
 case round =>
  obtain ⟨k, hk, rfl, hN, hbr⟩ := hrel
  by_cases hlt : k < l.length
  ·obtain ⟨x, hx⟩ := some_of_lt hlt
   obtain ⟨b, off, hbe, hb, h0⟩ := (hrow.below hbr).str hx
   injection hbe with hbe
   injection hbe with hbe1 hbe2
   subst hbe1 hbe2
   rw [Nat.zero_add] at h0
   have hxs := Nat.le_trans (hsz.out x (List.mem_of_getElem? hx)) hs
   have HD := Lib.hid (fun w => Decimal_any x 255 w (by omega) (by omega) (by omega))
   have hr := numR_range x 255 (by omega)
   have hbad' := @byteNum_bad x
   have hok := @byteNum_ok x
   generalize numR x 255 10 = r at *
   obtain ⟨n, er⟩ := r
   dsimp only at HD hr hbad' hok
   by_cases he : er = 0
   ·have hee : (er != 0) = false := by simp [he]
    have HI := Lib.hid (fun w hg => Digits_any n w (by omega) (by omega) hg)
    have hok := hok he
    have hgr := hg1.beyond hbr
    cases hq : ((itoaT n).toList == x.toList)
    ·have hq' : ((itoaT n).toList != x.toList) = true := by rw [bne, hq]; rfl
     rw [hq] at hok
     have HB := Lib.hid (hbad.out _ _ hx hok)
     clear hok hbad' he hx hN hr
     go_wp2_with fail
     refine (HD.out _).mono ?_
     rintro e w2 ⟨rfl, b2⟩
     have hg2 := hgr.beyond b2
     go_wp2_with fail
     refine (HI.out _ hg2).mono ?_
     rintro e w3 ⟨rfl, b3⟩
     go_wp2
     go_ret
     exact ⟨ret_bool HB.out.symm, hb1.trans ((hbr.trans ((b2.trans (b3.mono b2.size)).mono hbr.size)).mono hb1.size)⟩
    ·have hq' : ((itoaT n).toList != x.toList) = false := by rw [bne, hq]; rfl
     rw [hq] at hok
     have HN := Lib.hid (hN.succ hx hok)
     clear hok hbad' he hx hN hr
     go_wp2_with fail
     refine (HD.out _).mono ?_
     rintro e w2 ⟨rfl, b2⟩
     have hg2 := hgr.beyond b2
     go_wp2_with fail
     refine (HI.out _ hg2).mono ?_
     rintro e w3 ⟨rfl, b3⟩
     go_wp2
     go_roundw
     case rel => exact ⟨k + 1, by omega, by go_num, HN.out, hbr.trans ((b2.trans (b3.mono b2.size)).mono hbr.size)⟩
     case measure => simp [RowKit.intOf]; omega
   ·have hee : (er != 0) = true := by simpa using he
    have HB := Lib.hid (hbad.out _ _ hx (hbad' he))
    clear hok hbad' he hx hN hr
    go_wp2_with fail
    refine (HD.out _).mono ?_
    rintro e w2 ⟨rfl, b2⟩
    go_wp2
    go_ret
    exact ⟨ret_bool HB.out.symm, hb1.trans ((hbr.trans (b2.mono hbr.size)).mono hb1.size)⟩
  ·obtain rfl : k = l.length := by omega
   have HB := Lib.hid (hend.out hN)
   clear hN
   go_wp2
   go_ret
   exact ⟨ret_bool HB.out.symm, hb1.trans (hbr.mono hb1.size)⟩
end Go.Proofs.YtbnafbdhomdcoaaGreatDoor.T5
namespace Go.Proofs.YtbnafbdhomdcoaaGreatDoor.T5
open Go.RowKit Go.Shelf Go.Lib
def GrRel (last : Bool) (l : List ByteArray) (k : Nat) (n : Int) : Prop := (GroupsAt l k ∧ n = k) ∨ (k = l.length ∧ n = groupsL last l)
theorem GrRel.start (last : Bool) (l : List ByteArray) : GrRel last l 0 0 := .inl ⟨GroupsAt.zero l, rfl⟩
section
variable {last : Bool} {l : List ByteArray} {k : Nat} {n : Int} {g : ByteArray}
theorem GrRel.at_ (h : GrRel last l k n) (hk : k < l.length) : GroupsAt l k ∧ n = k := by
 rcases h with h | ⟨h, _⟩
 ·exact h
 ·omega
theorem GrRel.end_ (h : GrRel last l l.length n) : n = groupsL last l := by
 rcases h with ⟨h1, h2⟩ | ⟨_, h⟩
 ·rw [h2, h1.all]
 ·exact h
theorem GrRel.on (h : GroupsAt l k) (hk : l[k]? = some g) (hg : hexGroup g = true) : GrRel last l (k + 1) ((k : Int) + 1) := .inl ⟨h.succ hk hg, by omega⟩
end
theorem groupsR_zero {s : ByteArray} {last : Bool} (h : s.size = 0) : groupsR s last = 0 := by unfold groupsR; rw [if_pos h]
theorem groupsR_row {s : ByteArray} {last : Bool} (h : ¬ s.size = 0) : groupsR s last = groupsL last (splitC s 58) := by unfold groupsR; rw [if_neg h]
end Go.Proofs.YtbnafbdhomdcoaaGreatDoor.T5
namespace Go.Proofs.YtbnafbdhomdcoaaGreatDoor.T5
open Go.RowKit Go.Shelf Go.Lib
def GivesGr (w : World) (s : ByteArray) (last : Bool) (e : Ending) (w' : World) : Prop := ∃ n : Int, e = .returned (.tuple #[.int .i64 n, .bool (decide (0 ≤ groupsR s last))]) ∧ (0 ≤ groupsR s last → n = groupsR s last) ∧ Below w.heap.size w w'
theorem gives_gr {w w' : World} {s : ByteArray} {last b : Bool} {n : Int} (hb : decide (0 ≤ groupsR s last) = b) (hn : 0 ≤ groupsR s last → n = groupsR s last) (h : Below w.heap.size w w') : GivesGr w s last (.returned (.tuple #[.int .i64 n, .bool b])) w' := ⟨n, by rw [hb], hn, h⟩
theorem gives_no {w w' : World} {s : ByteArray} {last : Bool} {n : Int} (hr : groupsR s last = -1) (h : Below w.heap.size w w') : GivesGr w s last (.returned (.tuple #[.int .i64 n, .bool false])) w' := gives_gr (decide_eq_false (by omega)) (fun h => by omega) h
theorem gives_yes {w w' : World} {s : ByteArray} {last : Bool} {n : Int} (hr : groupsR s last = n) (h0 : 0 ≤ n) (h : Below w.heap.size w w') : GivesGr w s last (.returned (.tuple #[.int .i64 n, .bool true])) w' := gives_gr (decide_eq_true (by omega)) (fun _ => hr.symm) h
theorem group_long {g : ByteArray} (h : g.size = 0 ∨ 4 < g.size) : hexGroup g = false := by
 unfold hexGroup
 rcases h with h | h
 ·rw [decide_eq_false (show ¬ 0 < g.size by omega)]; rfl
 ·rw [decide_eq_false (show ¬ g.size ≤ 4 by omega)]; simp
theorem group_bad {g : ByteArray} {j : Nat} (hj : j < g.size) (h : digV (bt g j) < 0) : hexGroup g = false := by
 unfold hexGroup
 rw [allB_false hj (by unfold isHexB; simp; omega)]
 simp
theorem group_ok {g : ByteArray} (h0 : 0 < g.size) (h4 : g.size ≤ 4) (h : AllTo isHexB g g.size) : hexGroup g = true := by
 unfold hexGroup
 rw [decide_eq_true h0, decide_eq_true h4, allB_true h]
 rfl
set_option maxRecDepth 20000 in
set_option maxHeartbeats 4000000 in
theorem groups_any (s : ByteArray) (last : Bool) (w : World) (hs : s.size ≤ 4194304) (hg : Glob w) :
  Calls Tryz.prog 223 #[.string s, .bool last] w (GivesGr w s last) := by
 by_cases hz : s.size = 0
 ·have he : s.toList.isEmpty = true := by rw [empty_eq]; exact decide_eq_true hz
  have HR := Lib.hid (groupsR_zero (last := last) hz)
  clear hz
  go_enter Tryz.func223, Tryz.ntmps223
  go_wp2
  go_ret2
  exact gives_yes HR.out (by omega) (Below.refl _ _)
 ·have he : s.toList.isEmpty = false := by rw [empty_eq]; exact decide_eq_false hz
  have HR := Lib.hid (groupsR_row (last := last) hz)
  have HS := Lib.hid (Split_any s 58 w hs hg)
  rw [show ((58 : UInt8).toNat : Int) = 58 from rfl] at HS
  have hsz := Lib.hid (fun x (hx : x ∈ splitC s 58) => splitC_size hx)
  have hln := splitC_len s 58
  generalize splitC s 58 = l at *
  clear hz
  go_enter Tryz.func223, Tryz.ntmps223
  go_wp2_with fail
  refine HS.out.mono ?_
  rintro e w1 ⟨rfl, rfl⟩
  have hrow := row_new w l 9
  have hb1 : Below w.heap.size w (w.alloc (.cells (l.map Value.string).toArray 9)) := (Below.refl _ w).alloc (Nat.le_refl _) _
  have hg1 := hg.beyond hb1
  generalize w.alloc (.cells (l.map Value.string).toArray 9) = w1 at *
  go_wp2
  go_loopw [6, 17] (fun v i wr => ∃ k : Nat, k ≤ l.length ∧ i = .int .i64 k ∧ v = .int .i64 k ∧ GroupsAt l k ∧ Below w1.heap.size w1 wr) (fun _ i _ => l.length - (RowKit.intOf i).toNat)
  case atStart => exact ⟨0, by omega, rfl, rfl, GroupsAt.zero l, Below.refl _ _⟩
  case round =>
   obtain ⟨k, hk, rfl, rfl, hG, hbr⟩ := hrel
   by_cases hlt : k < l.length
   ·obtain ⟨g, hx⟩ := some_of_lt hlt
    obtain ⟨b, off, hbe, hb, h0⟩ := (hrow.below hbr).str hx
    injection hbe with hbe
    injection hbe with hbe1 hbe2
    subst hbe1 hbe2
    rw [Nat.zero_add] at h0
    have hgs := Nat.le_trans (hsz.out g (List.mem_of_getElem? hx)) hs
    have HD := Lib.hid (fun w => Has_any g 46 w)
    rw [show ((46 : UInt8).toNat : Int) = 46 from rfl] at HD
    have HQ := Lib.hid (fun w hg => isDotted_any g w hgs hg)
    have hgr := hg1.beyond hbr
    by_cases hd : last = true ∧ k + 1 = l.length ∧ inB g 46 = true
    ·obtain ⟨rfl, hl, hdt⟩ := hd
     have hil : ((k : Int) == (l.length : Int) - 1) = true := beq_iff_eq.2 (by omega)
     rw [hdt] at HD
     have hh := dot_hex hdt
     cases hq : quad g
     ·have HB := Lib.hid (HR.out.trans (hG.bad hx hh (.inr (.inr hq))))
      rw [hq] at HQ
      clear hx hG hdt hh hq
      go_wp2_with fail
      refine (HD.out _).mono ?_
      rintro e w2 ⟨rfl, rfl⟩
      go_wp2_with fail
      refine (HQ.out _ hgr).mono ?_
      rintro e w3 ⟨rfl, b3⟩
      go_wp2
      go_ret2
      exact gives_no HB.out (hb1.trans ((hbr.trans (b3.mono hbr.size)).mono hb1.size))
     ·have HB := Lib.hid (HR.out.trans (GroupsAt.quad hG hx hl hh hq))
      rw [hq] at HQ
      clear hx hG hdt hh hq
      go_wp2_with fail
      refine (HD.out _).mono ?_
      rintro e w2 ⟨rfl, rfl⟩
      go_wp2_with fail
      refine (HQ.out _ hgr).mono ?_
      rintro e w3 ⟨rfl, b3⟩
      go_wp2
      go_ret2
      exact gives_yes HB.out (by omega) (hb1.trans ((hbr.trans (b3.mono hbr.size)).mono hb1.size))
    ·have HBAD := Lib.hid (fun hh : hexGroup g = false => HR.out.trans (hG.bad hx hh (by
      cases hl : last
      ·exact .inl rfl
      ·by_cases h1 : k + 1 < l.length
       ·exact .inr (.inl h1)
       ·right; right
        cases hqq : inB g 46
        ·exact dot_quad hqq
        ·exact absurd ⟨hl, by omega, hqq⟩ hd)))
     have HON := Lib.hid (fun hh : hexGroup g = true => hG.succ hx hh)
     have hc3 : last = false ∨ (last = true ∧ k + 1 < l.length) ∨ (last = true ∧ k + 1 = l.length ∧ inB g 46 = false) := by
      cases hl : last
      ·exact .inl rfl
      ·by_cases h1 : k + 1 < l.length
       ·exact .inr (.inl ⟨rfl, h1⟩)
       ·right; right
        refine ⟨rfl, by omega, ?_⟩
        cases hqq : inB g 46
        ·rfl
        ·exact absurd ⟨hl, by omega, hqq⟩ hd
     have hpass : last = false ∨ (last = true ∧ ((k : Int) == (l.length : Int) - 1) = false) ∨ (last = true ∧ ((k : Int) == (l.length : Int) - 1) = true ∧ inB g 46 = false) := by
      rcases hc3 with h | ⟨h, h2⟩ | ⟨h, h2, h3⟩
      ·exact .inl h
      ·exact .inr (.inl ⟨h, beq_eq_false_iff_ne.2 (by omega)⟩)
      ·exact .inr (.inr ⟨h, beq_iff_eq.2 (by omega), h3⟩)
     clear hc3 hd hx hG HQ
     obtain ⟨xo, rfl⟩ : ∃ xo : World, xo = wr := ⟨_, rfl⟩
     rcases hpass with rfl | ⟨rfl, hil⟩ | ⟨rfl, hil, hdf⟩
     case' inr.inr => rw [hdf] at HD; clear hdf
     all_goals
      by_cases hg0 : g.size = 0
      ·have hg1' : decide ((g.size : Int) < 1) = true := decide_eq_true (by omega)
       have HB := Lib.hid (HBAD.out (group_long (.inl hg0)))
       clear hg0
       go_wp2_with (go_at_call 234; refine (HD.out _).mono ?_; rintro e w2 ⟨rfl, rfl⟩)
       go_ret2
       exact gives_no HB.out (hb1.trans (hbr.mono hb1.size))
      ·by_cases hg4 : 4 < g.size
       ·have HB := Lib.hid (HBAD.out (group_long (.inr hg4)))
        have hgp : ¬ (g.size : Int) < 1 := by omega
        go_wp2_with (go_at_call 234; refine (HD.out _).mono ?_; rintro e w2 ⟨rfl, rfl⟩)
        go_ret2
        exact gives_no HB.out (hb1.trans (hbr.mono hb1.size))
       ·have hgp : ¬ (g.size : Int) < 1 := by omega
        have HK := Lib.hid (fun h => HON.out (group_ok (g := g) (by omega) (by omega) h))
        go_wp2_with (go_at_call 234; refine (HD.out _).mono ?_; rintro e w2 ⟨rfl, rfl⟩)
        go_loop [48] (fun v => ∃ j : Nat, j ≤ g.size ∧ v = .int .i64 j ∧ AllTo isHexB g j) (fun v => g.size - (RowKit.intOf v).toNat)
        case atStart => exact ⟨0, by omega, rfl, AllTo.zero _ _⟩
        case round =>
         obtain ⟨j, hj, rfl, hall⟩ := hrel
         by_cases hjt : j < g.size
         ·have hbj := @bt_eq g j hjt
          have HDG := Lib.hid (fun w => digit_any (bt g j) w (bt_nonneg g j) (bt_lt g j))
          by_cases hneg : digV (bt g j) < 0
          ·have HB := Lib.hid (HBAD.out (group_bad hjt hneg))
           clear hall
           generalize digV (bt g j) = d at *
           go_wp2_with fail
           refine (HDG.out _).mono ?_
           rintro e w2 ⟨rfl, rfl⟩
           go_wp2
           go_ret2
           exact gives_no HB.out (hb1.trans (hbr.mono hb1.size))
          ·have HA := Lib.hid (hall.succ (P := isHexB) (by unfold isHexB; simp; omega))
           clear hall
           generalize digV (bt g j) = d at *
           go_wp2_with fail
           refine (HDG.out _).mono ?_
           rintro e w2 ⟨rfl, rfl⟩
           go_wp2
           go_round
           case rel => exact ⟨j + 1, by omega, by go_num, HA.out⟩
           case measure => simp [RowKit.intOf]; omega
         ·obtain rfl : j = g.size := by omega
          have HN := Lib.hid (HK.out hall)
          clear hall
          go_wp2
          go_roundw
          case rel => exact ⟨k + 1, by omega, by go_num, by go_num, HN.out, hbr⟩
          case measure => simp [RowKit.intOf]; omega
   ·obtain rfl : k = l.length := by omega
    have HB := Lib.hid (HR.out.trans hG.all)
    clear hG
    go_wp2
    go_ret2
    exact gives_yes HB.out (by omega) (hb1.trans (hbr.mono hb1.size))
end Go.Proofs.YtbnafbdhomdcoaaGreatDoor.T5
