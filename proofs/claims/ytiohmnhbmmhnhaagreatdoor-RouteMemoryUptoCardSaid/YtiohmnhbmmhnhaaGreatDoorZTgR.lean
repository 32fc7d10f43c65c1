/-
 TgR, without what this claim does not reach.
-/
import Derived.Test.YtiohmnhbmmhnhaaGreatDoorZTgX
namespace Go.Proofs.YtiohmnhbmmhnhaaGreatDoor
open Go.RowKit Go.Shelf Go.Lib
def isLet (c : Int) : Bool := (decide (65 ≤ c) && decide (c ≤ 90)) || (decide (97 ≤ c) && decide (c ≤ 122))
def isDgt (c : Int) : Bool := decide (48 ≤ c) && decide (c ≤ 57)
theorem isLet_yes {c : Int} (h : (65 ≤ c ∧ c ≤ 90) ∨ (97 ≤ c ∧ c ≤ 122)) : isLet c = true := by unfold isLet; simp; omega
theorem isLet_no {c : Int} (h : c < 65 ∨ (90 < c ∧ c < 97) ∨ 122 < c) : isLet c = false := by unfold isLet; simp; omega
theorem alnum_let (c : Int) : alnum c = (isLet c || isDgt c) := by
 unfold alnum isLet isDgt
 rw [Bool.or_assoc, Bool.or_comm]
theorem rLetter_any (c : Int) (w : World) :
  Calls Tryz.prog 153 #[.int .u8 c] w fun e w' => e = .returned (.bool (isLet c)) ∧ w = w' := by
 have hs : (65 ≤ c ∧ c ≤ 90) ∨ (97 ≤ c ∧ c ≤ 122) ∨ c < 65 ∨ (90 < c ∧ c < 97) ∨ 122 < c := by omega
 rcases hs with ⟨g1, g2⟩ | ⟨g1, g2⟩ | g1 | ⟨g1, g2⟩ | g1
 all_goals
  go_enter Tryz.func153, Tryz.ntmps153
  go_wp2
  go_ret
  first | exact ⟨ret_bool (isLet_yes (by omega)).symm, rfl⟩ | exact ⟨ret_bool (isLet_no (by omega)).symm, rfl⟩ | exact ⟨ret_bool (by rw [isLet_no (by omega)]; simp; omega), rfl⟩
theorem rDigit_any (c : Int) (w : World) :
  Calls Tryz.prog 154 #[.int .u8 c] w fun e w' => e = .returned (.bool (isDgt c)) ∧ w = w' := by
 have hs : (48 ≤ c ∧ c ≤ 57) ∨ c < 48 ∨ 57 < c := by omega
 rcases hs with ⟨g1, g2⟩ | g1 | g1
 all_goals
  go_enter Tryz.func154, Tryz.ntmps154
  go_wp2
  go_ret
  exact ⟨ret_bool (by unfold isDgt; simp; try omega), rfl⟩
theorem isHex_dgt {c : Int} (h : isDgt c = true) : isHexB c = true := by
 simp [isDgt] at h
 exact isHexB_iff.2 (by rw [digV_val (by omega)]; omega)
theorem isHex_rest {c : Int} (h : isDgt c = false) : (isHexB c = true ∧ ((65 ≤ c ∧ c ≤ 70) ∨ (97 ≤ c ∧ c ≤ 102))) ∨ (isHexB c = false ∧ (c < 65 ∨ (70 < c ∧ c < 97) ∨ 102 < c)) := by
 simp [isDgt] at h
 unfold isHexB digV
 rw [if_neg (by omega)]
 by_cases a : 97 ≤ c ∧ c ≤ 102
 ·rw [if_pos a]; left; simp; omega
 ·rw [if_neg a]
  by_cases b : 65 ≤ c ∧ c ≤ 70
  ·rw [if_pos b]; left; simp; omega
  ·rw [if_neg b]; right; simp; omega
set_option maxRecDepth 20000 in
theorem rHex_any (c : Int) (w : World) :
  Calls Tryz.prog 155 #[.int .u8 c] w fun e w' => e = .returned (.bool (isHexB c)) ∧ w = w' := by
 have HD := Lib.hid (fun w => rDigit_any c w)
 cases hd : isDgt c
 ·rw [hd] at HD
  rcases isHex_rest hd with ⟨h, g⟩ | ⟨h, g⟩
  ·have HH := Lib.hid h
   clear h hd
   rcases g with ⟨g1, g2⟩ | ⟨g1, g2⟩
   all_goals
    go_enter Tryz.func155, Tryz.ntmps155
    go_wp2_with fail
    refine (HD.out _).mono ?_
    rintro e w' ⟨rfl, rfl⟩
    go_wp2
    go_ret
    exact ⟨ret_bool HH.out.symm, rfl⟩
  ·have HH := Lib.hid h
   clear h hd
   rcases g with g1 | ⟨g1, g2⟩ | g1
   all_goals
    go_enter Tryz.func155, Tryz.ntmps155
    go_wp2_with fail
    refine (HD.out _).mono ?_
    rintro e w' ⟨rfl, rfl⟩
    go_wp2
    go_ret
    first | exact ⟨ret_bool HH.out.symm, rfl⟩ | exact ⟨ret_bool (by rw [HH.out]; simp; omega), rfl⟩
 ·rw [hd] at HD
  have HH := Lib.hid (isHex_dgt hd)
  clear hd
  go_enter Tryz.func155, Tryz.ntmps155
  go_wp2_with fail
  refine (HD.out _).mono ?_
  rintro e w' ⟨rfl, rfl⟩
  go_wp2
  go_ret
  exact ⟨ret_bool HH.out.symm, rfl⟩
theorem inB_hit {s : ByteArray} {c : Int} {k : Nat} (hk : k < s.size) (h : bt s k = c) : inB s c = true := by
 unfold inB
 rw [allB_false hk (by simp [h])]
 rfl
theorem inB_miss {s : ByteArray} {c : Int} (h : AllTo (fun b => !decide (b = c)) s s.size) : inB s c = false := by
 unfold inB
 rw [allB_true h]
 rfl
set_option maxRecDepth 20000 in
theorem rIn_any (s : ByteArray) (c : Int) (w : World) (hs : s.size ≤ 1099511627776) :
  Calls Tryz.prog 144 #[.int .u8 c, .string s] w fun e w' => e = .returned (.bool (inB s c)) ∧ w = w' := by
 go_enter Tryz.func144, Tryz.ntmps144
 go_wp2
 go_loop [5] (fun i => ∃ k : Nat, k ≤ s.size ∧ i = .int .i64 k ∧ AllTo (fun b => !decide (b = c)) s k) (fun i => s.size - (RowKit.intOf i).toNat)
 case atStart => exact ⟨0, by omega, rfl, AllTo.zero _ _⟩
 case round =>
  obtain ⟨k, hk, rfl, hall⟩ := hrel
  by_cases hlt : k < s.size
  ·have hb := @bt_eq s k hlt
   by_cases hc : bt s k = c
   ·have hcc : (bt s k == c) = true := by simpa using hc
    have HC := Lib.hid (inB_hit hlt hc)
    clear hc
    go_wp2
    go_ret
    exact ⟨ret_bool HC.out.symm, rfl⟩
   ·have hcc : (bt s k == c) = false := by simpa using hc
    have HA := Lib.hid (hall.succ (P := fun b => !decide (b = c)) (by simpa using hc))
    clear hc hall
    go_wp2
    go_round
    case rel => exact ⟨k + 1, by omega, by go_num, HA.out⟩
    case measure => simp [RowKit.intOf]; omega
  ·obtain rfl : k = s.size := by omega
   have HA := Lib.hid (inB_miss hall)
   clear hall
   go_wp2
   go_ret
   exact ⟨ret_bool HA.out.symm, rfl⟩
theorem rSub_any (c : Int) (w : World) :
  Calls Tryz.prog 143 #[.int .u8 c] w fun e w' => e = .returned (.bool (subd c)) ∧ w = w' := by
 have H := Lib.hid (fun w => rIn_any ⟨#[33, 36, 38, 39, 40, 41, 42, 43, 44, 59, 61]⟩ c w (by decide))
 go_enter Tryz.func143, Tryz.ntmps143
 go_wp2_with fail
 refine (H.out _).mono ?_
 rintro e w' ⟨rfl, rfl⟩
 go_wp2
 go_ret
 exact ⟨rfl, rfl⟩
set_option maxRecDepth 20000 in
theorem rUnres_any (c : Int) (w : World) :
  Calls Tryz.prog 142 #[.int .u8 c] w fun e w' => e = .returned (.bool (unres c)) ∧ w = w' := by
 have HL := Lib.hid (fun w => rLetter_any c w)
 have HD := Lib.hid (fun w => rDigit_any c w)
 have H := Lib.hid (fun w => rIn_any ⟨#[45, 46, 95, 126]⟩ c w (by decide))
 have HU := Lib.hid (show unres c = ((isLet c || isDgt c) || inB ⟨#[45, 46, 95, 126]⟩ c) from by rw [← alnum_let]; rfl)
 generalize inB ⟨#[45, 46, 95, 126]⟩ c = z at *
 cases hl : isLet c
 ·cases hd : isDgt c
  ·rw [hl] at HL HU
   rw [hd] at HD HU
   clear hl hd
   go_enter Tryz.func142, Tryz.ntmps142
   go_wp2_with fail
   refine (HL.out _).mono ?_
   rintro e w' ⟨rfl, rfl⟩
   go_wp2_with fail
   refine (HD.out _).mono ?_
   rintro e w' ⟨rfl, rfl⟩
   go_wp2_with fail
   refine (H.out _).mono ?_
   rintro e w' ⟨rfl, rfl⟩
   go_wp2
   go_ret
   exact ⟨ret_bool (by rw [HU.out]; rfl), rfl⟩
  ·rw [hl] at HL HU
   rw [hd] at HD HU
   clear hl hd
   go_enter Tryz.func142, Tryz.ntmps142
   go_wp2_with fail
   refine (HL.out _).mono ?_
   rintro e w' ⟨rfl, rfl⟩
   go_wp2_with fail
   refine (HD.out _).mono ?_
   rintro e w' ⟨rfl, rfl⟩
   go_wp2
   go_ret
   exact ⟨ret_bool (by rw [HU.out]; rfl), rfl⟩
 ·rw [hl] at HL HU
  clear hl HD
  go_enter Tryz.func142, Tryz.ntmps142
  go_wp2_with fail
  refine (HL.out _).mono ?_
  rintro e w' ⟨rfl, rfl⟩
  go_wp2
  go_ret
  exact ⟨ret_bool (by rw [HU.out]; rfl), rfl⟩
theorem tri_one_b {s : ByteArray} {i : Nat} (h : isHexB (bt s (i + 1)) = false) : tri s i = false := tri_one (by have := mt isHexB_iff.2 (by rw [h]; simp); omega)
theorem tri_two_b {s : ByteArray} {i : Nat} (h : isHexB (bt s (i + 2)) = false) : tri s i = false := tri_two (by have := mt isHexB_iff.2 (by rw [h]; simp); omega)
set_option maxRecDepth 20000 in
set_option maxHeartbeats 1000000 in
theorem rTriple_any (s : ByteArray) (i : Nat) (w : World) (hs : s.size ≤ 1099511627776) (hi : i ≤ s.size) :
  Calls Tryz.prog 141 #[.string s, .int .i64 i] w fun e w' => e = .returned (.bool (tri s i)) ∧ w = w' := by
 by_cases h2 : i + 2 < s.size
 ·have hb := @bt_eq s i (by omega)
  by_cases h37 : bt s i = 37
  ·have heq : (bt s i == 37) = true := by rw [h37]; rfl
   have hb1 := @bt_eq s (i + 1) (by omega)
   have hb2 := @bt_eq s (i + 2) (by omega)
   have i1 : ((i : Int) + 1).toNat = i + 1 := by omega
   have i2 : ((i : Int) + 2).toNat = i + 2 := by omega
   have l1 : (i : Int) + 1 < (s.size : Int) := by omega
   have l2 : (i : Int) + 2 < (s.size : Int) := by omega
   have H1 := Lib.hid (fun w => rHex_any (bt s (i + 1)) w)
   have H2 := Lib.hid (fun w => rHex_any (bt s (i + 2)) w)
   cases g1 : isHexB (bt s (i + 1))
   ·have HT := Lib.hid (tri_one_b g1)
    rw [g1] at H1
    clear h37 g1
    go_enter Tryz.func141, Tryz.ntmps141
    go_wp2_with fail
    refine (H1.out _).mono ?_
    rintro e w' ⟨rfl, rfl⟩
    go_wp2
    go_ret
    exact ⟨ret_bool HT.out.symm, rfl⟩
   ·cases g2 : isHexB (bt s (i + 2))
    ·have HT := Lib.hid (tri_two_b g2)
     rw [g1] at H1
     rw [g2] at H2
     clear h37 g1 g2
     go_enter Tryz.func141, Tryz.ntmps141
     go_wp2_with fail
     refine (H1.out _).mono ?_
     rintro e w' ⟨rfl, rfl⟩
     go_wp2_with fail
     refine (H2.out _).mono ?_
     rintro e w' ⟨rfl, rfl⟩
     go_wp2
     go_ret
     exact ⟨ret_bool HT.out.symm, rfl⟩
    ·have HT := Lib.hid (tri_iff.2 ⟨h2, h37, isHexB_iff.1 g1, isHexB_iff.1 g2⟩)
     rw [g1] at H1
     rw [g2] at H2
     clear h37 g1 g2
     go_enter Tryz.func141, Tryz.ntmps141
     go_wp2_with fail
     refine (H1.out _).mono ?_
     rintro e w' ⟨rfl, rfl⟩
     go_wp2_with fail
     refine (H2.out _).mono ?_
     rintro e w' ⟨rfl, rfl⟩
     go_wp2
     go_ret
     exact ⟨ret_bool HT.out.symm, rfl⟩
  ·have heq : (bt s i == 37) = false := by simpa using h37
   have HT := Lib.hid (tri_other h37)
   clear h37
   go_enter Tryz.func141, Tryz.ntmps141
   go_wp2
   go_ret
   exact ⟨ret_bool HT.out.symm, rfl⟩
 ·have HT := Lib.hid (tri_short (s := s) (i := i) (by omega))
  have hd : decide ((i : Int) + 2 < (s.size : Int)) = false := decide_eq_false (by omega)
  go_enter Tryz.func141, Tryz.ntmps141
  go_wp2
  go_ret
  exact ⟨ret_bool HT.out.symm, rfl⟩
end Go.Proofs.YtiohmnhbmmhnhaaGreatDoor
