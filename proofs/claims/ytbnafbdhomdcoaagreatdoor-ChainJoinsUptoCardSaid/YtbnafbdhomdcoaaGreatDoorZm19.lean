/-
  TgLib, TgDc, TgRs, TgSp, TgJo, without what the claim does not reach.
-/
import Derived.Test.YtbnafbdhomdcoaaGreatDoorZm18
import Derived.Test.YtbnafbdhomdcoaaGreatDoorZm12
import Derived.Lib.AppendIntMem
import Derived.Test.YtbnafbdhomdcoaaGreatDoorZm15
import Derived.Lib.ItoaLen
import Derived.Test.YtbnafbdhomdcoaaGreatDoorZm11
import Derived.Lib.Join
import Derived.Lib.AppendStr
namespace Go.Proofs.YtbnafbdhomdcoaaGreatDoor.T5
open Go.RowKit Go.Shelf Go.Lib
def cutVal (r : ByteArray × ByteArray × Bool) : Value := .tuple #[.string r.1, .string r.2.1, .bool r.2.2]
theorem Cut_any (s : ByteArray) (c : UInt8) (w : World) (hs : s.size ≤ 4194304) (hg : Glob w) :
  Calls Tryz.prog 165 #[.string s, .string ⟨#[c]⟩] w fun e w' => e = .returned (cutVal (cutW s c.toNat)) ∧ ∃ q : Nat, w' = w.drewN q := by
 obtain ⟨m, hm⟩ := hg.maxl
 refine (Tryz.strings_Cut s ⟨#[c]⟩ m w (by omega) hm).mono fun e w' ⟨he, hw⟩ => ⟨?_, hw⟩
 obtain ⟨h1, h2, h3⟩ := cut_eq s c
 rw [he]
 unfold cutVal
 rw [← h1, ← h2, ← h3]
def gapVal (s : ByteArray) : Value := if gap s < s.size then .tuple #[.string (s.extract 0 (gap s)), .string (s.extract (gap s + 2) s.size), .bool true] else .tuple #[.string s, .string ⟨#[]⟩, .bool false]
theorem CutGap_any (s : ByteArray) (w : World) (hs : s.size ≤ 4194304) (hg : Glob w) :
  Calls Tryz.prog 165 #[.string s, .string ⟨#[58, 58]⟩] w fun e w' => e = .returned (gapVal s) ∧ ∃ q : Nat, w' = w.drewN q := by
 obtain ⟨m, hm⟩ := hg.maxl
 refine (Tryz.strings_Cut s ⟨#[58, 58]⟩ m w (by omega) hm).mono fun e w' ⟨he, hw⟩ => ⟨?_, hw⟩
 rw [he]
 unfold gapVal
 rcases cut_gap s with ⟨h1, h2⟩ | ⟨k, h1, h2, h3⟩
 ·obtain ⟨g1, g2, g3⟩ := Lib.cutB_miss s ⟨#[58, 58]⟩ h2
  rw [if_neg (by omega), g1, g2, g3]
  rfl
 ·obtain ⟨g1, g2, g3⟩ := Lib.cutB_hit s ⟨#[58, 58]⟩ k h3
  rw [h1, if_pos (by omega), g1, g2, g3]
  rfl
theorem Split_any (s : ByteArray) (c : UInt8) (w : World) (hs : s.size ≤ 4194304) (hg : Glob w) :
  Calls Tryz.prog 233 #[.string s, .string ⟨#[c]⟩] w fun e w' => e = .returned (.slice (some ⟨w.heap.size, 0, none⟩) (splitC s c.toNat).length (splitC s c.toNat).length) ∧ w' = w.alloc (.cells ((splitC s c.toNat).map Value.string).toArray 9) := by
 obtain ⟨m, hm⟩ := hg.maxl
 obtain ⟨h1, h2⟩ := splitB_eq c s.size s (Nat.le_refl _)
 refine (Tryz.strings_Split s ⟨#[c]⟩ m w (by omega) hm (by show 1 ≤ 1; omega)).mono fun e w' ⟨he, hw⟩ => ⟨?_, ?_⟩
 ·rw [he, h2]
 ·rw [hw, h1]
theorem Has_any (s : ByteArray) (c : UInt8) (w : World) :
  Calls Tryz.prog 234 #[.string s, .string ⟨#[c]⟩] w fun e w' => e = .returned (.bool (inB s c.toNat)) ∧ w = w' := by
 refine (Tryz.strings_Contains_one s c w).mono fun e w' ⟨he, hw⟩ => ⟨?_, hw.symm⟩
 rw [he]
 have h := indexByte_eq s (c.toNat : Int) (by omega) (by have := c.toNat_lt; omega)
 rw [show ((c.toNat : Int)).toNat.toUInt8 = c by simp] at h
 rw [h]
 have := inB_find s c.toNat
 cases e : inB s c.toNat
 ·rw [this.2 e]; rfl
 ·have := this.1 e
  exact ret_bool (decide_eq_true this)
def heads (s : ByteArray) (c : Int) : Bool := decide (0 < s.size) && decide (bt s 0 = c)
def ends (s : ByteArray) (c : Int) : Bool := decide (0 < s.size) && decide (bt s (s.size - 1) = c)
theorem data_cons {s : ByteArray} (h : 0 < s.size) : ∃ (x : UInt8) (r : List UInt8), s.data.toList = x :: r ∧ bt s 0 = (x.toNat : Int) := by
 rcases e : s.data.toList with _ | ⟨x, r⟩
 ·rw [← size_eq, e] at h; simp at h
 ·exact ⟨x, r, rfl, by unfold bt; rw [e]; rfl⟩
theorem byte_beq (c x : UInt8) : (c == x) = decide ((x.toNat : Int) = (c.toNat : Int)) := by
 rw [Bool.eq_iff_iff]
 simp only [beq_iff_eq, decide_eq_true_eq]
 constructor
 ·rintro rfl; rfl
 ·intro h
  apply UInt8.toNat_inj.1
  omega
theorem prefix_one (s : ByteArray) (c : UInt8) : Lib.hasPrefix s.data.toList [c] = heads s c.toNat := by
 unfold Lib.hasPrefix heads
 by_cases h : 0 < s.size
 ·obtain ⟨x, r, e, hb⟩ := data_cons h
  rw [e, hb, decide_eq_true h, Bool.true_and]
  simp only [List.isPrefixOf, Bool.and_true]
  exact byte_beq c x
 ·have : s.data.toList = [] := List.eq_nil_of_length_eq_zero (by rw [size_eq]; omega)
  rw [this, decide_eq_false h]
  rfl
theorem suffix_one (s : ByteArray) (c : UInt8) : Lib.hasSuffix s.data.toList [c] = ends s c.toNat := by
 unfold Lib.hasSuffix ends
 by_cases h : 0 < s.size
 ·have hne : s.data.toList ≠ [] := by
   intro e
   rw [← size_eq, e] at h
   simp at h
  have e := List.dropLast_concat_getLast hne
  have hb : bt s (s.size - 1) = ((s.data.toList.getLast hne).toNat : Int) := by
   unfold bt
   rw [List.getLast_eq_getElem, ← size_eq, List.getD_eq_getElem?_getD, List.getElem?_eq_getElem]
   rfl
  rw [decide_eq_true h, Bool.true_and, hb]
  generalize s.data.toList.getLast hne = x at *
  generalize s.data.toList.dropLast = l at *
  rw [← e]
  unfold List.isSuffixOf
  rw [List.reverse_append]
  simp only [List.reverse_cons, List.reverse_nil, List.nil_append, List.cons_append, List.isPrefixOf, Bool.and_true]
  exact byte_beq c x
 ·have : s.data.toList = [] := List.eq_nil_of_length_eq_zero (by rw [size_eq]; omega)
  rw [this, decide_eq_false h]
  rfl
theorem Prefix_any (s : ByteArray) (c : UInt8) (w : World) :
  Calls Tryz.prog 163 #[.string s, .string ⟨#[c]⟩] w fun e w' => e = .returned (.bool (heads s c.toNat)) ∧ w = w' :=
 (Tryz.strings_HasPrefix s ⟨#[c]⟩ w).mono fun _ _ ⟨he, hw⟩ => ⟨by rw [he, ← prefix_one], hw.symm⟩
theorem Suffix_any (s : ByteArray) (c : UInt8) (w : World) (hs : s.size ≤ 4194304) :
  Calls Tryz.prog 98 #[.string s, .string ⟨#[c]⟩] w fun e w' => e = .returned (.bool (ends s c.toNat)) ∧ w = w' :=
 (Tryz.strings_HasSuffix s ⟨#[c]⟩ w (by omega)).mono fun _ _ ⟨he, hw⟩ => ⟨by rw [he, ← suffix_one], hw.symm⟩
theorem TrimPrefix_any (s : ByteArray) (c : UInt8) (w : World) :
  Calls Tryz.prog 164 #[.string s, .string ⟨#[c]⟩] w fun e w' => e = .returned (.string (if heads s c.toNat = true then s.extract 1 s.size else s)) ∧ w = w' := by
 refine (Tryz.strings_TrimPrefix s ⟨#[c]⟩ w).mono fun e w' ⟨he, hw⟩ => ⟨?_, hw.symm⟩
 rw [he]
 have h := prefix_one s c
 show Ending.returned (.string ⟨(if Lib.hasPrefix s.data.toList [c] = true then s.data.toList.drop 1 else s.data.toList).toArray⟩) = _
 rw [h]
 cases heads s c.toNat
 ·exact ret_str (bytes_ext rfl)
 ·refine ret_str (bytes_ext ?_)
  rw [if_pos rfl, if_pos rfl, ext_all]
theorem Digits_any (n : Int) (w : World) (h0 : -9223372036854775808 ≤ n) (h1 : n ≤ 9223372036854775807) (hg : Glob w) :
  Calls Tryz.prog 39 #[.int .i64 n] w fun e w' => e = .returned (.string (itoaT n)) ∧ Below w.heap.size w w' := by
 have HI : Calls Tryz.prog 79 #[.int .i64 n] w fun e w' => e = .returned (.string (itoaT n)) ∧ Below w.heap.size w w' := (Tryz.strconv_Itoa n h0 h1 w hg.pow).mono fun e w' ⟨he, k, os, hw⟩ => ⟨he, by rw [hw]; exact Lib.below_grow _ _ (Nat.le_refl _) k os⟩
 have HI := Lib.hid HI
 go_enter Tryz.func39, Tryz.ntmps39
 go_wp2_with fail
 refine HI.out.mono ?_
 rintro e w' ⟨rfl, hb⟩
 go_wp2
 go_ret
 exact ⟨rfl, hb⟩
end Go.Proofs.YtbnafbdhomdcoaaGreatDoor.T5
namespace Go.Proofs.YtbnafbdhomdcoaaGreatDoor.T5
open Go.RowKit Go.Shelf Go.Lib
theorem OwnB.drew {w : World} {base : Nat} {v : Value} {l : List UInt8} (h : OwnB w base v l) : OwnB w.drew base v l := World.ownsRow.drew h
theorem OwnB.drewN {w : World} {base : Nat} {v : Value} {l : List UInt8} (h : OwnB w base v l) (q : Nat) : OwnB (w.drewN q) base v l := own_below h (below_drewN (Below.refl _ _) q)
theorem OwnB.below {w w' : World} {base : Nat} {v : Value} {l : List UInt8} (h : OwnB w base v l) (hb : Below w.heap.size w w') : OwnB w' base v l := own_below h hb
end Go.Proofs.YtbnafbdhomdcoaaGreatDoor.T5
namespace Go.Proofs.YtbnafbdhomdcoaaGreatDoor.T5
open Go.RowKit Go.Shelf Go.Lib
end Go.Proofs.YtbnafbdhomdcoaaGreatDoor.T5
namespace Go.Proofs.YtbnafbdhomdcoaaGreatDoor.T5
open Go.RowKit Go.Shelf Go.Lib
def Tg.val (t : Tg) : Value := .agg #[.int .i64 t.form, .string t.host, .int .i64 t.port, .string t.path, .string t.query, .bool t.hasq]
def tgVal (r : Tg × Nat × Int) : Value := .tuple #[r.1.val, .int .i64 (r.2.1 : Int), .int .i64 r.2.2]
theorem wrong_any (s : ByteArray) (i : Nat) (o : Int) (w : World) (hi : i < s.size) :
  Calls Tryz.prog 192 #[.string s, .int .i64 i, .int .i64 o] w fun e w' => e = .returned (.int .i64 (wrongE s i o)) ∧ w = w' := by
 have hb := @bt_eq s i hi
 have HW := Lib.hid (show wrongE s i o = if bt s i = 37 then 51 else o from rfl)
 by_cases h : bt s i = 37
 ·have he : (bt s i == 37) = true := by rw [h]; rfl
  rw [if_pos h] at HW
  clear h
  go_enter Tryz.func192, Tryz.ntmps192
  go_wp2
  go_ret
  exact ⟨ret_int HW.out.symm, rfl⟩
 ·have he : (bt s i == 37) = false := by simpa using h
  rw [if_neg h] at HW
  clear h
  go_enter Tryz.func192, Tryz.ntmps192
  go_wp2
  go_ret
  exact ⟨ret_int HW.out.symm, rfl⟩
section
variable {t : Tg} {s : ByteArray} {i : Nat}
theorem behindR_end (h : endP s i = s.size) : behindR t s i = (t.laid (s.extract i (endP s i)) ⟨#[]⟩ false, 0, 0) := by unfold behindR; rw [if_pos h]
theorem behindR_bad (h : ¬ endP s i = s.size) (hb : bt s (endP s i) ≠ 63) : behindR t s i = (noTg, endP s i, wrongE s (endP s i) 53) := by unfold behindR; rw [if_neg h, if_neg hb]
theorem behindR_query (h : ¬ endP s i = s.size) (hb : bt s (endP s i) = 63) (hq : endQ s (endP s i + 1) < s.size) : behindR t s i = (noTg, endQ s (endP s i + 1), wrongE s (endQ s (endP s i + 1)) 54) := by unfold behindR; rw [if_neg h, if_pos hb, if_pos hq]
theorem behindR_ok (h : ¬ endP s i = s.size) (hb : bt s (endP s i) = 63) (hq : ¬ endQ s (endP s i + 1) < s.size) : behindR t s i = (t.laid (s.extract i (endP s i)) (s.extract (endP s i + 1) s.size) true, 0, 0) := by unfold behindR; rw [if_neg h, if_pos hb, if_neg hq]
end
theorem ret_tg {a b : Tg × Nat × Int} (h : a = b) : Ending.returned (tgVal a) = .returned (tgVal b) := by rw [h]
def Tg.with_ (f : Int) (h : ByteArray) (p : Int) : Tg := ⟨f, h, p, ⟨#[]⟩, ⟨#[]⟩, false⟩
theorem laid_zero {f p : Int} {h x q : ByteArray} {b : Bool} (hx : x.size = 0) : (Tg.with_ f h p).laid x q b = ⟨f, h, p, ⟨#[47]⟩, q, b⟩ := by unfold Tg.laid Tg.with_; rw [if_pos hx]; rfl
theorem laid_some {f p : Int} {h x q : ByteArray} {b : Bool} (hx : ¬ x.size = 0) : (Tg.with_ f h p).laid x q b = ⟨f, h, p, x, q, b⟩ := by unfold Tg.laid Tg.with_; rw [if_neg hx]
set_option maxRecDepth 100000 in
set_option maxHeartbeats 4000000 in
theorem behind_any (f : Int) (h : ByteArray) (p : Int) (s : ByteArray) (i : Nat) (w : World) (hs : s.size ≤ 1099511627776) (hi : i ≤ s.size) :
  Calls Tryz.prog 151 #[(Tg.with_ f h p).val, .string s, .int .i64 i] w fun e w' => e = .returned (tgVal (behindR (Tg.with_ f h p) s i)) ∧ Below w.heap.size w w' := by
 have hz := ext_size s hi (Nat.le_refl _)
 have HP := Lib.hid (fun w => signs_path (s.extract i s.size) w (by omega))
 have hE := endP_range hi
 have e0 : endP s i = i + pathStop (s.extract i s.size) := rfl
 have hbq := @behindR_query (Tg.with_ f h p) s i
 have hbo := @behindR_ok (Tg.with_ f h p) s i
 have hbb := @behindR_bad (Tg.with_ f h p) s i
 have hbe := @behindR_end (Tg.with_ f h p) s i
 rw [e0] at hE hbq hbo hbb hbe
 have HQ := Lib.hid hbq
 have HO := Lib.hid hbo
 have HBB := Lib.hid hbb
 have HEE := Lib.hid hbe
 clear hbq hbo hbb hbe e0
 generalize pathStop (s.extract i s.size) = n at *
 have i1 : ((i : Int) + (n : Int)).toNat = i + n := by omega
 have l1 : (i : Int) + (n : Int) ≤ (s.size : Int) := by omega
 have l2 : (i : Int) ≤ (i : Int) + (n : Int) := by omega
 have hpz := ext_size s (a := i) (b := i + n) (by omega) (by omega)
 have hcase : ∃ pv : ByteArray, (∀ (q : ByteArray) (b : Bool), (Tg.with_ f h p).laid (s.extract i (i + n)) q b = ⟨f, h, p, pv, q, b⟩) ∧ ((pv = ⟨#[47]⟩ ∧ (s.extract i (i + n)).toList.isEmpty = true) ∨ (pv = s.extract i (i + n) ∧ (s.extract i (i + n)).toList.isEmpty = false)) := by
  by_cases hn0 : n = 0
  ·exact ⟨_, fun q b => laid_zero (by omega), .inl ⟨rfl, by rw [empty_eq]; exact decide_eq_true (by omega)⟩⟩
  ·exact ⟨_, fun q b => laid_some (by omega), .inr ⟨rfl, by rw [empty_eq]; exact decide_eq_false (by omega)⟩⟩
 clear hpz
 obtain ⟨pv, hpv, hcs⟩ := hcase
 have HPV := Lib.hid hpv
 clear hpv
 rw [show (Tg.with_ f h p).val = .agg #[.int .i64 f, .string h, .int .i64 p, .string ⟨#[]⟩, .string ⟨#[]⟩, .bool false] from rfl]
 rcases hcs with ⟨rfl, he⟩ | ⟨rfl, he⟩
 all_goals
  by_cases hend : i + n = s.size
  ·have hee : ((i : Int) + (n : Int) == (s.size : Int)) = true := beq_iff_eq.2 (by omega)
   have HB := Lib.hid ((HEE.out hend).trans (by rw [HPV.out]))
   clear hend hz
   go_enter Tryz.func151, Tryz.ntmps151
   go_wp2_with fail
   refine (HP.out _).mono ?_
   rintro e w1 ⟨rfl, q, rfl⟩
   go_wp2
   exact bodyPost_ret (v := tgVal (⟨f, h, p, _, ⟨#[]⟩, false⟩, 0, 0)) (by simp [results, Tryz.results151, go_sem, tgVal, Tg.val]) rfl ⟨ret_tg HB.out.symm, by (repeat (first | (with_reducible refine Below.setCell ?_ (by simp) _) | (with_reducible refine below_drewN ?_ _) | (with_reducible refine Below.alloc ?_ (by simp) _))); exact Below.refl _ _⟩
  ·have hee : ((i : Int) + (n : Int) == (s.size : Int)) = false := beq_eq_false_iff_ne.2 (by omega)
   have hlt : i + n < s.size := by omega
   have l3 : (i : Int) + (n : Int) < (s.size : Int) := by omega
   have hb := @bt_eq s (i + n) hlt
   by_cases h63 : bt s (i + n) = 63
   ·have hne : (bt s (i + n) != 63) = false := by rw [h63]; rfl
    have hz2 := ext_size s (a := i + n + 1) (b := s.size) (by omega) (Nat.le_refl _)
    have HQ2 := Lib.hid (fun w => signs_query (s.extract (i + n + 1) s.size) w (by omega))
    have hE2 := endQ_range (s := s) (i := i + n + 1) (by omega)
    have e2 : endQ s (i + n + 1) = i + n + 1 + queryStop (s.extract (i + n + 1) s.size) := rfl
    have hqq := HQ.out hend h63
    have hoo := HO.out hend h63
    rw [e2] at hE2 hqq hoo
    clear e2
    generalize queryStop (s.extract (i + n + 1) s.size) = m at *
    have i2 : ((i : Int) + (n : Int) + 1).toNat = i + n + 1 := by omega
    have i3 : ((i : Int) + (n : Int) + 1 + (m : Int)).toNat = i + n + 1 + m := by omega
    have l4 : (i : Int) + (n : Int) + 1 ≤ (s.size : Int) := by omega
    have l5 : (i : Int) + (n : Int) + 1 + (m : Int) ≤ (s.size : Int) := by omega
    have l6 : (i : Int) + (n : Int) + 1 ≤ (i : Int) + (n : Int) + 1 + (m : Int) := by omega
    by_cases hlt2 : i + n + 1 + m < s.size
    ·have hd : decide ((i : Int) + (n : Int) + 1 + (m : Int) < (s.size : Int)) = true := decide_eq_true (by omega)
     have HB := Lib.hid (hqq hlt2)
     have HW := Lib.hid (fun w => wrong_any s (i + n + 1 + m) 54 w hlt2)
     rw [Int.natCast_add, Int.natCast_add, Int.natCast_add] at HW
     clear hend hz h63 hqq hoo hz2
     go_enter Tryz.func151, Tryz.ntmps151
     go_wp2_with fail
     refine (HP.out _).mono ?_
     rintro e w1 ⟨rfl, q, rfl⟩
     go_wp2_with fail
     refine (HQ2.out _).mono ?_
     rintro e w1 ⟨rfl, q2, rfl⟩
     go_wp2_with fail
     refine (HW.out _).mono ?_
     rintro e w1 ⟨rfl, rfl⟩
     go_wp2
     exact bodyPost_ret (v := tgVal (noTg, i + n + 1 + m, wrongE s (i + n + 1 + m) 54)) (by simp [results, Tryz.results151, go_sem, tgVal, Tg.val, noTg]) rfl ⟨ret_tg HB.out.symm, by (repeat (first | (with_reducible refine Below.setCell ?_ (by simp) _) | (with_reducible refine below_drewN ?_ _) | (with_reducible refine Below.alloc ?_ (by simp) _))); exact Below.refl _ _⟩
    ·have hd : decide ((i : Int) + (n : Int) + 1 + (m : Int) < (s.size : Int)) = false := decide_eq_false (by omega)
     have HB := Lib.hid ((hoo hlt2).trans (by rw [HPV.out, show s.extract (i + n + 1) s.size = s.extract (i + n + 1) (i + n + 1 + m) by rw [show i + n + 1 + m = s.size by omega]]))
     clear hend hz h63 hqq hoo hz2
     go_enter Tryz.func151, Tryz.ntmps151
     go_wp2_with fail
     refine (HP.out _).mono ?_
     rintro e w1 ⟨rfl, q, rfl⟩
     go_wp2_with fail
     refine (HQ2.out _).mono ?_
     rintro e w1 ⟨rfl, q2, rfl⟩
     go_wp2
     exact bodyPost_ret (v := tgVal (⟨f, h, p, _, s.extract (i + n + 1) (i + n + 1 + m), true⟩, 0, 0)) (by simp [results, Tryz.results151, go_sem, tgVal, Tg.val]) rfl ⟨ret_tg HB.out.symm, by (repeat (first | (with_reducible refine Below.setCell ?_ (by simp) _) | (with_reducible refine below_drewN ?_ _) | (with_reducible refine Below.alloc ?_ (by simp) _))); exact Below.refl _ _⟩
   ·have hne : (bt s (i + n) != 63) = true := by simpa using h63
    have HB := Lib.hid (HBB.out hend h63)
    have HW := Lib.hid (fun w => wrong_any s (i + n) 53 w hlt)
    rw [Int.natCast_add] at HW
    clear hend hz h63
    go_enter Tryz.func151, Tryz.ntmps151
    go_wp2_with fail
    refine (HP.out _).mono ?_
    rintro e w1 ⟨rfl, q, rfl⟩
    go_wp2_with fail
    refine (HW.out _).mono ?_
    rintro e w1 ⟨rfl, rfl⟩
    go_wp2
    exact bodyPost_ret (v := tgVal (noTg, i + n, wrongE s (i + n) 53)) (by simp [results, Tryz.results151, go_sem, tgVal, Tg.val, noTg]) rfl ⟨ret_tg HB.out.symm, by (repeat (first | (with_reducible refine Below.setCell ?_ (by simp) _) | (with_reducible refine below_drewN ?_ _) | (with_reducible refine Below.alloc ?_ (by simp) _))); exact Below.refl _ _⟩
end Go.Proofs.YtbnafbdhomdcoaaGreatDoor.T5
namespace Go.Proofs.YtbnafbdhomdcoaaGreatDoor.T5
open Go.RowKit Go.Shelf Go.Lib
end Go.Proofs.YtbnafbdhomdcoaaGreatDoor.T5
namespace Go.Proofs.YtbnafbdhomdcoaaGreatDoor.T5
open Go.RowKit Go.Shelf Go.Lib
end Go.Proofs.YtbnafbdhomdcoaaGreatDoor.T5
namespace Go.Proofs.YtbnafbdhomdcoaaGreatDoor.T5
open Go.RowKit Go.Shelf Go.Lib
theorem info_string : (Tryz.prog.info? 9).map (fun i => (i.zero, i.size, i.bytes)) = some (some (.string ⟨#[]⟩), 1, 16) := by kernel_rfl
def GivesStrs (w : World) (ss : List ByteArray) (e : Ending) (w' : World) : Prop :=
 ∃ A c, e = .returned (.slice A ss.length c) ∧ w'.ownsRow w.heap.size 9 1 (.slice A ss.length c) ss.length (ss.map .string) ∧ Below w.heap.size w w'
theorem cat_data (b : UInt8) (l : List UInt8) : ((⟨#[b]⟩ : ByteArray) ++ (⟨l.toArray⟩ : ByteArray)).data.toList = b :: l := by
 rw [ByteArray.data_append]
 simp
end Go.Proofs.YtbnafbdhomdcoaaGreatDoor.T5
namespace Go.Proofs.YtbnafbdhomdcoaaGreatDoor.T5
open Go.RowKit Go.Shelf Go.Lib
theorem join_len {l : List ByteArray} (h : l ≠ []) : (Lib.join (l.map (·.data.toList)) [47]).length + 1 = sumS l + l.length := by
 rw [← slashAll_len, slashAll_join h]
 rfl
theorem join_path {l : List ByteArray} (h : l ≠ []) : (⟨#[47]⟩ : ByteArray) ++ ⟨(Lib.join (l.map (·.data.toList)) [47]).toArray⟩ = pathOf l := by
 apply bytes_ext
 rw [cat_data]
 unfold pathOf
 rw [if_neg h]
 show _ = slashAll l
 rw [slashAll_join h]
theorem Join_own {w : World} {base c : Nat} {A : Option Addr} {l : List ByteArray} (h : w.ownsRow base 9 1 (.slice A l.length c) l.length (l.map .string)) (hne : l ≠ []) (hl : (Lib.join (l.map (·.data.toList)) [47]).length ≤ 140737488355328) (hn : l.length ≤ 140737488355328) :
  Calls Tryz.prog 141 #[.slice A l.length c, .string ⟨#[47]⟩] w fun e w' => e = .returned (.string ⟨(Lib.join (l.map (·.data.toList)) [47]).toArray⟩) ∧ Below w.heap.size w w' := by
 have hpos := List.length_pos_iff.2 hne
 obtain ⟨x, hx⟩ := some_of_lt hpos
 obtain ⟨b, off, rfl, hb, _⟩ := (own_row h).str hx
 have hcells : ∀ (j : Nat) x, l[j]? = some x → w.cell? ⟨b, off + j, none⟩ = some (.string x) := fun j x hj => by
  obtain ⟨b', off', he, _, hc⟩ := (own_row h).str hj
  injection he with he
  injection he with h1 h2
  subst h1 h2
  exact hc
 exact Tryz.strings_Join b off c l ⟨#[47]⟩ w hcells hb hn (own_cap h) hl
section
variable {P : Program} {w : World}
end
theorem cell_far {w w2 : World} {row : Option Nat} (hg : w.grownBy w2 row) (p : Addr) (hp : p.block < w.heap.size) (hne : some p.block ≠ row) : w2.cell? p = w.cell? p := World.cell?_of_block (hg.block p.block hp hne)
end Go.Proofs.YtbnafbdhomdcoaaGreatDoor.T5
