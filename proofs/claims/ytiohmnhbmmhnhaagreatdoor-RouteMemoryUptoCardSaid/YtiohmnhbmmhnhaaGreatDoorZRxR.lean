/-
 RxR, without what this claim does not reach.
-/
import Derived.Test.YtiohmnhbmmhnhaaGreatDoorZTgR
import Derived.Test.YtiohmnhbmmhnhaaGreatDoorZRxP
import Derived.Test.YtiohmnhbmmhnhaaGreatDoorZTgF3
import Derived.Test.YtiohmnhbmmhnhaaGreatDoorZTgApp
namespace Go.Proofs.YtiohmnhbmmhnhaaGreatDoor
open Go.RowKit Go.Shelf Go.Lib
theorem letB_yes {c : Int} (h : (65 ≤ c ∧ c ≤ 90) ∨ (97 ≤ c ∧ c ≤ 122)) : letB c = true := by unfold letB; simp; omega
theorem letB_no {c : Int} (h : c < 65 ∨ (90 < c ∧ c < 97) ∨ 122 < c) : letB c = false := by unfold letB; simp; omega
theorem letB_isLet (c : Int) : isLet c = letB c := by unfold isLet letB; rw [Bool.or_comm]
theorem digB_isDgt (c : Int) : isDgt c = digB c := rfl
theorem xLetter_any (c : Int) (w : World) :
  Calls Tryz.prog 175 #[.int .u8 c] w fun e w' => e = .returned (.bool (letB c)) ∧ w = w' := by
 have hs : (65 ≤ c ∧ c ≤ 90) ∨ (97 ≤ c ∧ c ≤ 122) ∨ c < 65 ∨ (90 < c ∧ c < 97) ∨ 122 < c := by omega
 rcases hs with ⟨g1, g2⟩ | ⟨g1, g2⟩ | g1 | ⟨g1, g2⟩ | g1
 all_goals
  go_enter Tryz.func175, Tryz.ntmps175
  go_wp2
  go_ret
  first | exact ⟨ret_bool (letB_yes (by omega)).symm, rfl⟩ | exact ⟨ret_bool (letB_no (by omega)).symm, rfl⟩ | exact ⟨ret_bool (by rw [letB_no (by omega)]; simp; omega), rfl⟩
theorem xDigit_any (c : Int) (w : World) :
  Calls Tryz.prog 176 #[.int .u8 c] w fun e w' => e = .returned (.bool (digB c)) ∧ w = w' := by
 have hs : (48 ≤ c ∧ c ≤ 57) ∨ c < 48 ∨ 57 < c := by omega
 rcases hs with ⟨g1, g2⟩ | g1 | g1
 all_goals
  go_enter Tryz.func176, Tryz.ntmps176
  go_wp2
  go_ret
  exact ⟨ret_bool (by unfold digB; simp; try omega), rfl⟩
set_option maxRecDepth 20000 in
theorem xHex_any (c : Int) (w : World) :
  Calls Tryz.prog 174 #[.int .u8 c] w fun e w' => e = .returned (.bool (isHexB c)) ∧ w = w' := by
 have HD := Lib.hid (fun w => xDigit_any c w)
 rw [← digB_isDgt] at HD
 cases hd : isDgt c
 ·rw [hd] at HD
  rcases isHex_rest hd with ⟨h, g⟩ | ⟨h, g⟩
  ·have HH := Lib.hid h
   clear h hd
   rcases g with ⟨g1, g2⟩ | ⟨g1, g2⟩
   all_goals
    go_enter Tryz.func174, Tryz.ntmps174
    go_wp2_with fail
    refine (HD.out _).mono ?_
    rintro e w' ⟨rfl, rfl⟩
    go_wp2
    go_ret
    first | exact ⟨ret_bool HH.out.symm, rfl⟩ | exact ⟨ret_bool (by rw [HH.out]; simp; omega), rfl⟩
  ·have HH := Lib.hid h
   clear h hd
   rcases g with g1 | ⟨g1, g2⟩ | g1
   all_goals
    go_enter Tryz.func174, Tryz.ntmps174
    go_wp2_with fail
    refine (HD.out _).mono ?_
    rintro e w' ⟨rfl, rfl⟩
    go_wp2
    go_ret
    first | exact ⟨ret_bool HH.out.symm, rfl⟩ | exact ⟨ret_bool (by rw [HH.out]; simp; omega), rfl⟩
 ·rw [hd] at HD
  have HH := Lib.hid (isHex_dgt hd)
  clear hd
  go_enter Tryz.func174, Tryz.ntmps174
  go_wp2_with fail
  refine (HD.out _).mono ?_
  rintro e w' ⟨rfl, rfl⟩
  go_wp2
  go_ret
  exact ⟨ret_bool HH.out.symm, rfl⟩
def signs18 : ByteArray := ⟨#[45, 46, 95, 126, 33, 36, 38, 39, 40, 41, 42, 43, 44, 59, 61, 58, 64]⟩
theorem signP_tab : ∀ n : Nat, n < 256 → signP n = (letB n || (digB n || inB signs18 n)) := by decide +kernel
theorem signP_eq {c : Int} (h0 : 0 ≤ c) (h1 : c < 256) : signP c = (letB c || (digB c || inB signs18 c)) := by
 obtain ⟨n, rfl⟩ := Int.eq_ofNat_of_zero_le h0
 exact signP_tab n (by omega)
set_option maxRecDepth 20000 in
theorem xSign_any (c : Int) (w : World) (h0 : 0 ≤ c) (h1 : c < 256) :
  Calls Tryz.prog 173 #[.int .u8 c] w fun e w' => e = .returned (.bool (signP c)) ∧ w = w' := by
 have HL := Lib.hid (fun w => xLetter_any c w)
 have HD := Lib.hid (fun w => xDigit_any c w)
 have HI := Lib.hid (fun w => IndexByte_any ⟨#[45, 46, 95, 126, 33, 36, 38, 39, 40, 41, 42, 43, 44, 59, 61, 58, 64]⟩ c w h0 h1)
 have hi := inB_find ⟨#[45, 46, 95, 126, 33, 36, 38, 39, 40, 41, 42, 43, 44, 59, 61, 58, 64]⟩ c
 rw [signP_eq h0 h1]
 unfold signs18
 generalize letB c = a at *
 generalize digB c = b at *
 generalize inB ⟨#[45, 46, 95, 126, 33, 36, 38, 39, 40, 41, 42, 43, 44, 59, 61, 58, 64]⟩ c = d at *
 generalize findB ⟨#[45, 46, 95, 126, 33, 36, 38, 39, 40, 41, 42, 43, 44, 59, 61, 58, 64]⟩ c = f at *
 clear h0 h1
 cases a
 ·cases b
  ·cases d
   ·obtain rfl := hi.2 rfl
    clear hi
    go_enter Tryz.func173, Tryz.ntmps173
    go_wp2_with fail
    refine (HL.out _).mono ?_
    rintro e w' ⟨rfl, rfl⟩
    go_wp2_with fail
    refine (HD.out _).mono ?_
    rintro e w' ⟨rfl, rfl⟩
    go_wp2_with fail
    refine (HI.out _).mono ?_
    rintro e w' ⟨rfl, rfl⟩
    go_wp2
    go_ret
    exact ⟨rfl, rfl⟩
   ·have hf := hi.1 rfl
    clear hi
    go_enter Tryz.func173, Tryz.ntmps173
    go_wp2_with fail
    refine (HL.out _).mono ?_
    rintro e w' ⟨rfl, rfl⟩
    go_wp2_with fail
    refine (HD.out _).mono ?_
    rintro e w' ⟨rfl, rfl⟩
    go_wp2_with fail
    refine (HI.out _).mono ?_
    rintro e w' ⟨rfl, rfl⟩
    go_wp2
    go_ret
    exact ⟨rfl, rfl⟩
  ·clear hi HI
   go_enter Tryz.func173, Tryz.ntmps173
   go_wp2_with fail
   refine (HL.out _).mono ?_
   rintro e w' ⟨rfl, rfl⟩
   go_wp2_with fail
   refine (HD.out _).mono ?_
   rintro e w' ⟨rfl, rfl⟩
   go_wp2
   go_ret
   exact ⟨rfl, rfl⟩
 ·clear hi HI HD
  go_enter Tryz.func173, Tryz.ntmps173
  go_wp2_with fail
  refine (HL.out _).mono ?_
  rintro e w' ⟨rfl, rfl⟩
  go_wp2
  go_ret
  exact ⟨rfl, rfl⟩
def endVal (r : Nat × Bool) : Value := .tuple #[.int .i64 (r.1 : Int), .bool r.2]
theorem ret_end {a b : Nat × Bool} (h : a = b) : Ending.returned (endVal a) = .returned (endVal b) := by rw [h]
set_option maxRecDepth 20000 in
set_option maxHeartbeats 4000000 in
theorem nameEnd_any (s : ByteArray) (i : Nat) (w : World) (hs : s.size ≤ 1099511627776) (hi : i ≤ s.size) :
  Calls Tryz.prog 132 #[.string s, .int .i64 i] w fun e w' => e = .returned (endVal (nameE s i)) ∧ w = w' := by
 by_cases h0 : i < s.size
 ·have hb := @bt_eq s i h0
  have hne : ((i : Int) == (s.size : Int)) = false := beq_eq_false_iff_ne.2 (by omega)
  have HL := Lib.hid (fun w => xLetter_any (bt s i) w)
  cases hl : letB (bt s i)
  ·have HR := Lib.hid (nameE_no (s := s) (i := i) (by rw [hl]; simp))
   rw [hl] at HL
   clear hl
   go_enter Tryz.func132, Tryz.ntmps132
   go_wp2_with fail
   refine (HL.out _).mono ?_
   rintro e w' ⟨rfl, rfl⟩
   go_wp2
   go_ret2
   exact ⟨ret_end HR.out.symm, rfl⟩
  ·have HR := Lib.hid (nameE_yes (s := s) (i := i) ⟨h0, hl⟩)
   rw [hl] at HL
   clear hl
   go_enter Tryz.func132, Tryz.ntmps132
   go_wp2_with fail
   refine (HL.out _).mono ?_
   rintro e w' ⟨rfl, rfl⟩
   clear hb h0 HL
   go_wp2
   go_loop [1] (fun v => ∃ k : Nat, i ≤ k ∧ k ≤ s.size ∧ v = .int .i64 k ∧ Good (fun j => nameB (bt s j)) i k) (fun v => s.size - (RowKit.intOf v).toNat)
   case atStart => exact ⟨i, by omega, by omega, rfl, fun j h1 h2 => by omega⟩
   case round =>
    obtain ⟨k, hik, hk, rfl, hgd⟩ := hrel
    by_cases hlt : k < s.size
    ·have hb := @bt_eq s k hlt
     have HL := Lib.hid (fun w => xLetter_any (bt s k) w)
     have HD := Lib.hid (fun w => xDigit_any (bt s k) w)
     cases hn : nameB (bt s k)
     ·have HE := Lib.hid (nameEnd_eq hik hk hgd (fun _ => hn))
      have hn' := hn
      unfold nameB at hn'
      simp only [Bool.or_eq_false_iff, decide_eq_false_iff_not] at hn'
      obtain ⟨n1, n2, n3⟩ := hn'
      have h95 : (bt s k == 95) = false := by simpa using n3
      rw [n1] at HL
      rw [n2] at HD
      clear hn n1 n2 n3 hgd
      go_wp2_with fail
      refine (HL.out _).mono ?_
      rintro e w' ⟨rfl, rfl⟩
      go_wp2_with fail
      refine (HD.out _).mono ?_
      rintro e w' ⟨rfl, rfl⟩
      go_wp2
      go_ret2
      refine ⟨?_, rfl⟩
      rw [HR.out, HE.out]
      rfl
     ·have HG := Lib.hid (show Good (fun j => nameB (bt s j)) i (k + 1) from fun j h1 h2 => by
       by_cases e : j = k
       ·subst e; exact hn
       ·exact hgd j h1 (by omega))
      unfold nameB at hn
      clear hgd
      cases hl : letB (bt s k)
      ·rw [hl] at HL hn
       cases hd : digB (bt s k)
       ·rw [hd] at HD hn
        have h95 : (bt s k == 95) = true := by simpa using hn
        clear hl hd hn
        go_wp2_with fail
        refine (HL.out _).mono ?_
        rintro e w' ⟨rfl, rfl⟩
        go_wp2_with fail
        refine (HD.out _).mono ?_
        rintro e w' ⟨rfl, rfl⟩
        go_wp2
        go_round
        case rel => exact ⟨k + 1, by omega, by omega, by go_num, HG.out⟩
        case measure => simp [RowKit.intOf]; omega
       ·rw [hd] at HD
        clear hl hd hn
        go_wp2_with fail
        refine (HL.out _).mono ?_
        rintro e w' ⟨rfl, rfl⟩
        go_wp2_with fail
        refine (HD.out _).mono ?_
        rintro e w' ⟨rfl, rfl⟩
        go_wp2
        go_round
        case rel => exact ⟨k + 1, by omega, by omega, by go_num, HG.out⟩
        case measure => simp [RowKit.intOf]; omega
      ·rw [hl] at HL
       clear hl hn HD
       go_wp2_with fail
       refine (HL.out _).mono ?_
       rintro e w' ⟨rfl, rfl⟩
       go_wp2
       go_round
       case rel => exact ⟨k + 1, by omega, by omega, by go_num, HG.out⟩
       case measure => simp [RowKit.intOf]; omega
    ·obtain rfl : k = s.size := by omega
     have HE := Lib.hid (nameEnd_eq hik hk hgd (fun h => by omega))
     clear hgd
     go_wp2
     go_ret2
     refine ⟨?_, rfl⟩
     rw [HR.out, HE.out]
     rfl
 ·obtain rfl : i = s.size := by omega
  have HR := Lib.hid (nameE_no (s := s) (i := s.size) (by omega))
  clear h0
  go_enter Tryz.func132, Tryz.ntmps132
  go_wp2
  go_ret2
  exact ⟨ret_end HR.out.symm, rfl⟩
set_option maxRecDepth 20000 in
set_option maxHeartbeats 4000000 in
theorem staticEnd_any (s : ByteArray) (i : Nat) (w : World) (hs : s.size ≤ 1099511627776) (hi : i ≤ s.size) :
  Calls Tryz.prog 131 #[.string s, .int .i64 i] w fun e w' => e = .returned (endVal (statE s i)) ∧ w = w' := by
 go_enter Tryz.func131, Tryz.ntmps131
 go_wp2
 go_loop [1] (fun v => ∃ k : Nat, k ≤ s.size ∧ v = .int .i64 k ∧ statE s k = statE s i) (fun v => s.size - (RowKit.intOf v).toNat)
 case atStart => exact ⟨i, hi, rfl, rfl⟩
 case round =>
  obtain ⟨k, hk, rfl, hst⟩ := hrel
  have HST := Lib.hid hst
  clear hst
  by_cases hlt : k < s.size
  ·have hb := @bt_eq s k hlt
   by_cases h47 : bt s k = 47
   ·have HR := Lib.hid (HST.out.symm.trans (statE_end (.inr h47)))
    have hq : (bt s k != 47) = false := by rw [h47]; rfl
    clear h47
    go_wp2
    go_ret2
    refine ⟨?_, rfl⟩
    rw [HR.out]
    rfl
   ·have hq : (bt s k != 47) = true := by simpa using h47
    by_cases h37 : bt s k = 37
    ·have hp : (bt s k != 37) = false := by rw [h37]; rfl
     have H37 := Lib.hid h37
     clear h37 h47
     go_wp2
     go_loop [1, 30] (fun v d => ∃ c : Nat, c ≤ 2 ∧ v = .int .i64 ((k + 1 + c : Nat) : Int) ∧ d = .int .i64 (c : Int) ∧ Hid (1 ≤ c → k + 1 < s.size ∧ isHexB (bt s (k + 1)) = true) ∧ Hid (2 ≤ c → k + 2 < s.size ∧ isHexB (bt s (k + 2)) = true)) (fun _ d => 2 - (RowKit.intOf d).toNat)
     case atStart => exact ⟨0, by omega, by go_num, rfl, Lib.hid (fun h => by omega), Lib.hid (fun h => by omega)⟩
     case round =>
      obtain ⟨c, hc, rfl, rfl, A1, A2⟩ := hrel
      by_cases hc2 : c < 2
      ·by_cases hlt2 : k + 1 + c < s.size
       ·have e1 : (((k + 1 + c : Nat) : Int) == (s.size : Int)) = false := beq_eq_false_iff_ne.2 (by omega)
        have hb1 := @bt_eq s (k + 1 + c) hlt2
        have H1 := Lib.hid (fun w => xHex_any (bt s (k + 1 + c)) w)
        cases hx : isHexB (bt s (k + 1 + c))
        ·rw [hx] at H1
         have HR : Hid (statE s i = (k + 1 + c, false)) := by
          apply Lib.hid
          rw [← HST.out]
          by_cases e0 : c = 0
          ·subst e0
           exact statE_one hlt H37.out (fun h => by rw [h.2] at hx; cases hx)
          ·obtain rfl : c = 1 := by omega
           exact statE_two H37.out (A1.out (by omega)) (fun h => by rw [h.2] at hx; cases hx)
         clear hx
         generalize hm : k + 1 + c = m at *
         go_wp2_with fail
         refine (H1.out _).mono ?_
         rintro e w1 ⟨rfl, rfl⟩
         go_wp2
         go_ret2
         refine ⟨?_, rfl⟩
         rw [HR.out]
         rfl
        ·have B1 : Hid (1 ≤ c + 1 → k + 1 < s.size ∧ isHexB (bt s (k + 1)) = true) := Lib.hid (fun _ => by
          by_cases e0 : c = 0
          ·subst e0; exact ⟨hlt2, hx⟩
          ·exact A1.out (by omega))
         have B2 : Hid (2 ≤ c + 1 → k + 2 < s.size ∧ isHexB (bt s (k + 2)) = true) := Lib.hid (fun h => by
          obtain rfl : c = 1 := by omega
          exact ⟨hlt2, hx⟩)
         rw [hx] at H1
         clear hx A1 A2
         have hm2 : ((k + 1 + c : Nat) : Int) + 1 = ((k + 1 + (c + 1) : Nat) : Int) := by omega
         have hm3 : ((k + 1 + c : Nat) : Int).toNat = k + 1 + c := by omega
         go_wp2_with fail
         refine (H1.out _).mono ?_
         rintro e w1 ⟨rfl, rfl⟩
         go_wp2
         go_round
         case rel => exact ⟨c + 1, by omega, by go_num, by go_num, B1, B2⟩
         case measure => simp [RowKit.intOf]; omega
       ·have HR : Hid (statE s i = (k + 1 + c, false)) := by
         apply Lib.hid
         rw [← HST.out]
         by_cases e0 : c = 0
         ·subst e0
          exact statE_one hlt H37.out (by omega)
         ·obtain rfl : c = 1 := by omega
          exact statE_two H37.out (A1.out (by omega)) (by omega)
        have hle : k + 1 + c = s.size := by
         by_cases e0 : c = 0
         ·omega
         ·have := (A1.out (by omega)).1; omega
        rw [hle] at HR ⊢
        go_wp2
        go_ret2
        refine ⟨?_, rfl⟩
        rw [HR.out]
        rfl
      ·have hc3 : c = 2 := by omega
       have HR := Lib.hid ((statE_tri H37.out (A1.out (by omega)) (A2.out (by omega))).symm.trans HST.out)
       have hk3 : k + 2 < s.size := (A2.out (by omega)).1
       clear A1 A2
       subst hc3
       go_wp2
       go_round
       case rel => exact ⟨k + 3, by omega, by go_num, HR.out⟩
       case measure => simp [RowKit.intOf]; omega
    ·have hp : (bt s k != 37) = true := by simpa using h37
     have HS := Lib.hid (fun w => xSign_any (bt s k) w (bt_nonneg s _) (bt_lt s _))
     cases hg : signP (bt s k)
     ·have HR := Lib.hid (HST.out.symm.trans (statE_no hlt h47 h37 hg))
      rw [hg] at HS
      clear hg h37 h47
      go_wp2_with fail
      refine (HS.out _).mono ?_
      rintro e w1 ⟨rfl, rfl⟩
      go_wp2
      go_ret2
      refine ⟨?_, rfl⟩
      rw [HR.out]
      rfl
     ·have HR := Lib.hid ((statE_on hlt h47 h37 hg).symm.trans HST.out)
      rw [hg] at HS
      clear hg h37 h47
      go_wp2_with fail
      refine (HS.out _).mono ?_
      rintro e w1 ⟨rfl, rfl⟩
      go_wp2
      go_round
      case rel => exact ⟨k + 1, by omega, by go_num, HR.out⟩
      case measure => simp [RowKit.intOf]; omega
  ·obtain rfl : k = s.size := by omega
   have HR := Lib.hid (HST.out.symm.trans (statE_end (.inl (Nat.le_refl _))))
   go_wp2
   go_ret2
   refine ⟨?_, rfl⟩
   rw [HR.out]
   rfl
end Go.Proofs.YtiohmnhbmmhnhaaGreatDoor
namespace Go.Proofs.YtiohmnhbmmhnhaaGreatDoor
open Go.RowKit Go.Shelf Go.Lib
def flatP (l : List Pc) : List Value := l.flatMap fun p => [.int .i64 p.1, .string p.2]
theorem flatP_length (l : List Pc) : (flatP l).length = l.length * 2 := by
 induction l with
 | nil => rfl
 | cons p l ih =>
  show (flatP l).length + 2 = _
  rw [ih, List.length_cons]
  omega
theorem flatP_append (l m : List Pc) : flatP (l ++ m) = flatP l ++ flatP m := by simp [flatP]
theorem flatP_get {l : List Pc} {k : Nat} {x : Int} {y : ByteArray} (h : l[k]? = some (x, y)) : (flatP l)[k * 2]? = some (.int .i64 x) ∧ (flatP l)[k * 2 + 1]? = some (.string y) := by
 induction l generalizing k with
 | nil => simp at h
 | cons p l ih =>
  cases k with
  | zero =>
   simp at h
   subst h
   exact ⟨rfl, rfl⟩
  | succ k =>
   obtain ⟨h0, h1⟩ := ih (k := k) (by simpa using h)
   have e : flatP (p :: l) = .int .i64 p.1 :: .string p.2 :: flatP l := rfl
   rw [e, show (k + 1) * 2 = k * 2 + 1 + 1 by omega, show k * 2 + 1 + 1 + 1 = (k * 2 + 1) + 1 + 1 from rfl]
   simp only [List.getElem?_cons_succ]
   exact ⟨h0, h1⟩
theorem flatP_oneCell (l : List Pc) : ∀ u ∈ flatP l, u.oneCell' = true := by
 intro u hu
 simp only [flatP, List.mem_flatMap] at hu
 obtain ⟨p, _, hp⟩ := hu
 simp at hp
 rcases hp with rfl | rfl <;> rfl
theorem Row.pc {w : World} {A : Option Addr} {l : List Pc} {k : Nat} {x : Int} {y : ByteArray} (h : Row w A (flatP l)) (hk : l[k]? = some (x, y)) :
  ∃ b off, A = some ⟨b, off, none⟩ ∧ b < w.heap.size ∧ w.cell? ⟨b, off + k * 2, none⟩ = some (.int .i64 x) ∧ w.cell? ⟨b, off + k * 2 + 1, none⟩ = some (.string y) := by
 obtain ⟨h0, h1⟩ := flatP_get hk
 obtain ⟨b, off, e, hb, hc⟩ := h.at_ h0
 exact ⟨b, off, e, hb, hc _ _ h0, by rw [Nat.add_assoc]; exact hc _ _ h1⟩
theorem info_piece : (Tryz.prog.info? 109).map (fun i => (i.zero, i.size, i.bytes)) = some (some (.agg #[.int .i64 0, .string ⟨#[]⟩]), 2, 24) := by kernel_rfl
theorem below_new {w w1 : World} {o : Obj} (h : Below (w.heap.size + 1) (w.alloc o) w1) : Below w.heap.size w w1 :=
 ((Below.refl w.heap.size w).alloc (Nat.le_refl _) o).trans (h.mono (by omega))
set_option maxRecDepth 20000 in
set_option maxHeartbeats 1000000 in
theorem read1_any (p x : Pc) (nb : Nat) (w : World) (hc1 : w.cell? ⟨nb, 1, none⟩ = some (.string p.2)) (hlt : nb < w.heap.size) :
  Calls Tryz.prog 134 #[.agg #[.int .i64 x.1, .string x.2], .pointer (some ⟨nb, 0, none⟩)] w fun e w' => e = .returned (.bool (sameName p x)) ∧ Below w.heap.size w w' := by
 obtain ⟨x1, x2⟩ := x
 unfold sameName
 by_cases h : x1 = 0
 ·have h1 : (x1 != 0) = false := by rw [h]; rfl
  rw [show decide ((x1, x2).1 = 0) = true from decide_eq_true h]
  clear h
  dsimp only
  go_enter Tryz.func134, Tryz.ntmps134
  go_wp2
  go_ret
  exact ⟨rfl, below_new (Below.refl _ _)⟩
 ·have h1 : (x1 != 0) = true := by simpa using h
  rw [show decide ((x1, x2).1 = 0) = false from decide_eq_false h]
  clear h
  dsimp only
  go_enter Tryz.func134, Tryz.ntmps134
  go_wp2
  go_ret
  refine ⟨ret_bool ?_, below_new (Below.refl _ _)⟩
  rw [Bool.not_false, Bool.true_and]
  exact eq_str x2 p.2
set_option maxRecDepth 20000 in
set_option maxHeartbeats 1000000 in
theorem IndexFunc_pc (A : Option Addr) (c : Nat) (l : List Pc) (p : Pc) (nb : Nat) (w : World) (hr : Row w A (flatP l)) (hl : l.length ≤ 4398046511104) (hc1 : w.cell? ⟨nb, 1, none⟩ = some (.string p.2)) (hlt : nb < w.heap.size) :
  Calls Tryz.prog 177 #[.slice A l.length c, .func (.func 134) #[] #[.pointer (some ⟨nb, 0, none⟩)]] w fun e w' => ∃ i : Int, e = .returned (.int .i64 i) ∧ decide (0 ≤ i) = l.any (sameName p) ∧ Below w.heap.size w w' := by
 have hcf : ∀ args w, (callFunc 134 args).run Tryz.prog w = .ok (.enter 134 args) w := fun args w => Tryz.call134 args w
 have HF := Lib.hid (fun (W : World) (h : Below w.heap.size w W) (x : Pc) => read1_any p x nb W ((h.cell (p := ⟨nb, 1, none⟩) hlt).trans hc1) (Nat.lt_of_lt_of_le hlt h.size))
 clear hc1 hlt
 generalize Value.pointer (some ⟨nb, 0, none⟩) = cap at *
 go_enter Tryz.func177, Tryz.ntmps177
 go_wp2
 go_loopw [8] (fun i wr => ∃ k : Nat, k ≤ l.length ∧ i = .int .i64 k ∧ Hid ((l.take k).any (sameName p) = false) ∧ Below w.heap.size w wr) (fun i _ => l.length - (RowKit.intOf i).toNat)
 case atStart => exact ⟨0, by omega, rfl, Lib.hid rfl, Below.refl _ _⟩
 case round =>
  obtain ⟨k, hk, rfl, HK, hbw⟩ := hrel
  by_cases hlt : k < l.length
  ·obtain ⟨⟨x, y⟩, hxy⟩ := some_of_lt hlt
   obtain ⟨b, off, rfl, hb, h0, h1⟩ := (hr.below hbw).pc hxy
   have HC := Lib.hid (HF.out wr hbw (x, y))
   dsimp only at HC
   have HS := Lib.hid (show (l.take (k + 1)).any (sameName p) = sameName p (x, y) by rw [take_snoc hxy, List.any_append, HK.out]; simp)
   have HY := Lib.hid (fun (e : sameName p (x, y) = true) => (List.any_eq_true.2 ⟨_, List.mem_of_getElem? hxy, e⟩ : l.any (sameName p) = true))
   clear hxy
   go_wp2_with fail
   refine HC.out.mono ?_
   rintro e w1 ⟨rfl, hb1⟩
   have hbw1 := hbw.trans (hb1.mono hbw.size)
   clear hb1 h0 h1
   cases hp : sameName p (x, y)
   ·rw [hp] at HS
    clear HY HC
    go_wp2
    go_roundw
    case rel => exact ⟨k + 1, by omega, by go_num, Lib.hid HS.out, hbw1⟩
    case measure => simp [RowKit.intOf]; omega
   ·have HZ := Lib.hid (HY.out hp)
    clear HY HC
    go_wp2
    go_ret
    exact ⟨k, rfl, by rw [HZ.out]; simp, hbw1⟩
  ·obtain rfl : k = l.length := by omega
   have HZ := HK.out
   rw [List.take_length] at HZ
   have HZ := Lib.hid HZ
   go_wp2
   go_ret
   exact ⟨-1, rfl, by rw [HZ.out]; rfl, hbw⟩
set_option maxRecDepth 20000 in
set_option maxHeartbeats 1000000 in
theorem ContainsFunc_pc (A : Option Addr) (c : Nat) (l : List Pc) (p : Pc) (nb : Nat) (w : World) (hr : Row w A (flatP l)) (hl : l.length ≤ 4398046511104) (hc1 : w.cell? ⟨nb, 1, none⟩ = some (.string p.2)) (hlt : nb < w.heap.size) :
  Calls Tryz.prog 133 #[.slice A l.length c, .func (.func 134) #[] #[.pointer (some ⟨nb, 0, none⟩)]] w fun e w' => e = .returned (.bool (l.any (sameName p))) ∧ Below w.heap.size w w' := by
 have HI := Lib.hid (IndexFunc_pc A c l p nb w hr hl hc1 hlt)
 clear hc1 hlt
 go_enter Tryz.func133, Tryz.ntmps133
 go_wp2_with fail
 refine HI.out.mono ?_
 rintro e w1 ⟨i, rfl, hi, hb⟩
 have HH := Lib.hid hi
 clear hi
 go_wp2
 go_ret
 exact ⟨ret_bool HH.out, hb⟩
end Go.Proofs.YtiohmnhbmmhnhaaGreatDoor
namespace Go.Proofs.YtiohmnhbmmhnhaaGreatDoor
open Go.RowKit Go.Shelf Go.Lib
def GivesRd (w : World) (r : Rd) (e : Ending) (w' : World) : Prop :=
 ∃ A c, e = .returned (.tuple #[.slice A r.1.length c, .int .i64 (r.2.1 : Int), .bool r.2.2]) ∧ w'.ownsRow w.heap.size 109 2 (.slice A r.1.length c) r.1.length (flatP r.1) ∧ Below w.heap.size w w'
theorem gives_bad {w w' : World} {r : Rd} {e : Nat} (h : r = ([], e, false)) (hb : Below w.heap.size w w') : GivesRd w r (.returned (.tuple #[.slice none 0 0, .int .i64 (e : Int), .bool false])) w' := by
 subst h
 exact ⟨none, 0, rfl, World.ownsRow_nil _ _ _ _, hb⟩
theorem gives_good {w w' : World} {r : Rd} {l : List Pc} {A : Option Addr} {c : Nat} (h : r = (l, 0, true)) (ho : w'.ownsRow w.heap.size 109 2 (.slice A l.length c) l.length (flatP l)) (hb : Below w.heap.size w w') : GivesRd w r (.returned (.tuple #[.slice A l.length c, .int .i64 0, .bool true])) w' := by
 subst h
 exact ⟨A, c, rfl, ho, hb⟩
theorem twice_zero {l : List Pc} {p : Pc} (h : p.1 = 0) : twice l p = false := by unfold twice; rw [decide_eq_true h]; rfl
theorem twice_any {l : List Pc} {p : Pc} (h : ¬ p.1 = 0) : twice l p = l.any (sameName p) := by unfold twice; rw [decide_eq_false h]; rfl
theorem wrong_not {s : ByteArray} {i e : Nat} (h : endAt s i = (e, false)) : wrongAt s i = true := by unfold wrongAt; rw [h]; rfl
theorem wrong_end {s : ByteArray} {i e : Nat} (h : endAt s i = (e, true)) (he : s.size ≤ e) : wrongAt s i = false := by
 unfold wrongAt
 rw [h]
 rw [show decide ((e, true).1 < s.size) = false from decide_eq_false (by simpa using he)]
 rfl
theorem wrong_rest {s : ByteArray} {i e : Nat} (h : endAt s i = (e, true)) (he : e < s.size) (hk : kindAt s i = 2) : wrongAt s i = true := by
 unfold wrongAt
 rw [h, hk, show decide ((e, true).1 < s.size) = true from decide_eq_true he]
 rfl
theorem wrong_slash {s : ByteArray} {i e : Nat} (h : endAt s i = (e, true)) (he : e < s.size) (hk : ¬ kindAt s i = 2) (hs : bt s e = 47) : wrongAt s i = false := by
 unfold wrongAt
 rw [h, decide_eq_false hk, show decide ((e, true).1 < s.size) = true from decide_eq_true he, show decide (bt s (e, true).1 = 47) = true from decide_eq_true hs]
 rfl
theorem wrong_other {s : ByteArray} {i e : Nat} (h : endAt s i = (e, true)) (he : e < s.size) (hs : ¬ bt s e = 47) : wrongAt s i = true := by
 unfold wrongAt
 rw [h, show decide ((e, true).1 < s.size) = true from decide_eq_true he, show decide (bt s (e, true).1 = 47) = false from decide_eq_false hs]
 cases decide (kindAt s i = 2) <;> rfl
theorem box_two {w w1 : World} {x y : Value} {t : TypeId} (h : Below (w.heap.size + 1) (w.alloc (.cells #[x, y] t)) w1) : w1.cell? ⟨w.heap.size, 0, none⟩ = some x ∧ w1.cell? ⟨w.heap.size, 1, none⟩ = some y := by
 refine ⟨?_, ?_⟩
 ·rw [h.cell (p := ⟨w.heap.size, 0, none⟩) (by simp), World.cell?_alloc_new]; rfl
 ·rw [h.cell (p := ⟨w.heap.size, 1, none⟩) (by simp), World.cell?_alloc_new]; rfl
set_option maxRecDepth 20000 in
set_option maxHeartbeats 8000000 in
theorem read_any (s : ByteArray) (w : World) (hs : s.size ≤ 4194304) :
  Calls Tryz.prog 96 #[.string s] w (GivesRd w (readP s)) := by
 obtain ⟨i0, hi0, hz0, hz1, hz2⟩ := info_parts info_piece
 have hmf : ∀ (fn : Fn) (first cap : Array Value) (w : World), (Instr.makeFunc fn first cap).run Tryz.prog w = .ok (.func fn first cap) w := fun _ _ _ _ => rfl
 by_cases h0 : s.size = 0
 ·have he : s.toList.isEmpty = true := by rw [empty_eq]; exact decide_eq_true h0
  have HR := Lib.hid (readP_no (s := s) (by omega))
  clear h0
  go_enter Tryz.func96, Tryz.ntmps96
  go_wp2
  go_ret3
  exact gives_bad HR.out (Below.refl _ _)
 have he : s.toList.isEmpty = false := by rw [empty_eq]; exact decide_eq_false h0
 have hlt : 0 < s.size := by omega
 have hb := @bt_eq s 0 hlt
 by_cases h47 : bt s 0 = 47
 rotate_left
 ·have HR := Lib.hid (readP_no (s := s) (by omega))
  have hh : (bt s 0 != 47) = true := by simpa using h47
  clear h0 h47
  go_enter Tryz.func96, Tryz.ntmps96
  go_wp2
  go_ret3
  exact gives_bad HR.out (Below.refl _ _)
 have hh : (bt s 0 != 47) = false := by rw [h47]; rfl
 have HR := Lib.hid (readP_yes (s := s) ⟨hlt, h47⟩)
 clear h0 h47
 go_enter Tryz.func96, Tryz.ntmps96
 go_wp2
 clear hb
 go_loopw [5, 6] (fun v i wr => ∃ (l : List Pc) (a : Nat), a ≤ s.size ∧ i = .int .i64 a ∧ l.length ≤ a ∧ wr.ownsRow w.heap.size 109 2 v l.length (flatP l) ∧ Hid (readF s l a = readP s) ∧ Below w.heap.size w wr) (fun _ i _ => s.size - (RowKit.intOf i).toNat)
 case atStart => exact ⟨[], 0, by omega, rfl, Nat.le_refl _, World.ownsRow_nil _ _ _ _, Lib.hid HR.out.symm, Below.refl _ _⟩
 case round =>
  obtain ⟨l, a, ha, rfl, hll, hown, HF, hbw⟩ := hrel
  by_cases hlt2 : a < s.size
  rotate_left
  ·obtain rfl : a = s.size := by omega
   have HN := Lib.hid (HF.out.symm.trans (readF_end (Nat.le_refl _)))
   obtain ⟨A, c, rfl⟩ := own_slice hown
   go_wp2
   go_ret3
   exact gives_good HN.out hown hbw
  have hBAD := Lib.hid (fun (hb : (wrongAt s (a + 1) || twice l (pcAt s (a + 1))) = true) => HF.out.symm.trans (readF_bad hlt2 hb))
  have hNEXT := Lib.hid (fun (hb : (wrongAt s (a + 1) || twice l (pcAt s (a + 1))) = false) => (readF_on hlt2 hb).symm.trans HF.out)
  have hES := endAt_spec s (a + 1) (by omega)
  have hFG := fromAt_ge s (a + 1)
  have c1 : ((a + 1 : Nat) : Int) = (a : Int) + 1 := by omega
  have c2 : ((a + 1 + 1 : Nat) : Int) = (a : Int) + 1 + 1 := by omega
  have t1 : ((a : Int) + 1).toNat = a + 1 := by omega
  have t2 : ((a : Int) + 1 + 1).toNat = a + 1 + 1 := by omega
  obtain ⟨A, c, rfl⟩ := own_slice hown
  clear HF HR
  rcases kind_cases s (a + 1) with ⟨hK0, n1, n2⟩ | ⟨hK0, n0, n1⟩ | ⟨hK0, n0, n1⟩
  ·by_cases hi : a + 1 < s.size
   ·have hbi := @bt_eq s (a + 1) hi
    have hli : (a : Int) + 1 < (s.size : Int) := by omega
    have q1 : (bt s (a + 1) == 58) = false := by simpa using (fun h => n1 ⟨hi, h⟩)
    have q2 : (bt s (a + 1) == 42) = false := by simpa using (fun h => n2 ⟨hi, h⟩)
    clear n1 n2
    have hK : kindAt s (a + 1) = 0 := hK0
    obtain ⟨⟨e, g⟩, hr⟩ : ∃ r, r = endAt s (a + 1) := ⟨_, rfl⟩
    rw [← hr] at hES
    obtain ⟨hfe, hes⟩ := hES
    dsimp only at hfe hes
    have hfr : fromAt s (a + 1) = a + 1 := by unfold fromAt; rw [if_pos hK]
    rw [hfr] at hfe
    have HPC := Lib.hid (show pcAt s (a + 1) = (0, s.extract (a + 1) e) by unfold pcAt; rw [hK, hfr, ← hr])
    have HCALL := Lib.hid (fun w => staticEnd_any s (a + 1) w (by omega) (by omega))
    rw [show statE s (a + 1) = (e, g) by rw [hr]; unfold endAt; rw [if_pos hK]] at HCALL
    rw [c1] at HCALL
    unfold endVal at HCALL
    dsimp only at HCALL
    have hmin : min ((a : Int) + 1 : Int) (e : Int) = (a : Int) + 1 := by omega
    have hle : ((a : Int) + 1 : Int) ≤ (e : Int) := by omega
    have HKH := Lib.hid hK
    have HE := Lib.hid hr.symm
    generalize hx : s.extract (a + 1) e = x at *
    have HX := Lib.hid hx
    have hbC := hbw.alloc hbw.size (.cells #[.int .i64 0, .string x] 109)
    clear hK hr hFG hfr
    cases g
    ·have hW := wrong_not HE.out
     have HB := Lib.hid (hBAD.out (by rw [hW]; simp))
     rw [HE.out] at HB
     clear hBAD hNEXT
     go_wp2_with fail
     refine (HCALL.out _).mono ?_
     rintro e' w1 ⟨rfl, rfl⟩
     go_wp2
     go_ret3
     exact gives_bad HB.out hbC
    ·by_cases hes2 : e < s.size
     ·have hbe := @bt_eq s e hes2
      by_cases hsl : bt s e = 47
      ·have hq : (bt s e != 47) = false := by rw [hsl]; rfl
       have hW := wrong_slash HE.out hes2 (by rw [HKH.out]; decide) hsl
       have HN := Lib.hid (hNEXT.out (by rw [hW, HPC.out, twice_zero rfl]; rfl))
       rw [HPC.out, HE.out] at HN
       have hown1 := hown.alloc (.cells #[.int .i64 0, .string x] 109)
       clear hBAD hNEXT hW HPC HE HX HKH
       go_wp2_with fail
       refine (HCALL.out _).mono ?_
       rintro e' w1 ⟨rfl, rfl⟩
       go_wp2_with (at_builtin; refine wpList_append_any _ rfl (.tmp 99) (.tmp 101) 104 rfl w.heap.size 109 i0 (.agg #[.int .i64 0, .string ⟨#[]⟩]) 2 24 Tryz.underlying104 hi0 hz0 hz1 hz2 rfl (by decide) _ _ _ rfl (hown1.alloc _) _ (some ⟨wr.heap.size + 1, 0, none⟩) 1 1 [.int .i64 0, .string x] rfl (reads_of_row (row_newc (wr.alloc (.cells #[.int .i64 0, .string x] 109)) _ 109 (by simp)) rfl (by decide)) ?c1 ?c2 ?c3 ?c4 ?c5)
       case c1 => exact flatP_oneCell [(0, x)]
       case c2 => unfold maxLen; omega
       case c3 => omega
       case c4 => simp; have := hbC.size; (try simp at this); omega
       case c5 =>
        intro v' w2 hown2 hg2 _
        have hb2 := (hbC.alloc (hbC.size) _).grown hg2 (by simp; have := hbC.size; (try simp at this); omega) (own_lt hown)
        have hown3 : w2.ownsRow w.heap.size 109 2 v' (l ++ [(0, x)]).length (flatP (l ++ [(0, x)])) := by rw [flatP_append, List.length_append]; exact hown2
        have HO := Lib.hid hown3
        have HB2 := Lib.hid hb2
        clear hown2 hg2 hown3 hb2
        go_wp2
        go_roundw
        case rel => exact ⟨l ++ [(0, x)], _, hes, rfl, by rw [List.length_append]; simp; omega, HO.out, HN, HB2.out⟩
        case measure => simp [RowKit.intOf]; omega
      ·have hq : (bt s e != 47) = true := by simpa using hsl
       have hW := wrong_other HE.out hes2 hsl
       clear hsl
       have HB := Lib.hid (hBAD.out (by rw [hW]; simp))
       rw [HE.out] at HB
       clear hBAD hNEXT
       go_wp2_with fail
       refine (HCALL.out _).mono ?_
       rintro e' w1 ⟨rfl, rfl⟩
       go_wp2
       go_ret3
       exact gives_bad HB.out hbC
     ·obtain rfl : e = s.size := by omega
      have hW := wrong_end HE.out (by omega)
      have HN := Lib.hid (hNEXT.out (by rw [hW, HPC.out, twice_zero rfl]; rfl))
      rw [HPC.out, HE.out] at HN
      have hown1 := hown.alloc (.cells #[.int .i64 0, .string x] 109)
      clear hBAD hNEXT hW HPC HE HX HKH
      go_wp2_with fail
      refine (HCALL.out _).mono ?_
      rintro e' w1 ⟨rfl, rfl⟩
      go_wp2_with (at_builtin; refine wpList_append_any _ rfl (.tmp 99) (.tmp 101) 104 rfl w.heap.size 109 i0 (.agg #[.int .i64 0, .string ⟨#[]⟩]) 2 24 Tryz.underlying104 hi0 hz0 hz1 hz2 rfl (by decide) _ _ _ rfl (hown1.alloc _) _ (some ⟨wr.heap.size + 1, 0, none⟩) 1 1 [.int .i64 0, .string x] rfl (reads_of_row (row_newc (wr.alloc (.cells #[.int .i64 0, .string x] 109)) _ 109 (by simp)) rfl (by decide)) ?c1 ?c2 ?c3 ?c4 ?c5)
      case c1 => exact flatP_oneCell [(0, x)]
      case c2 => unfold maxLen; omega
      case c3 => omega
      case c4 => simp; have := hbC.size; (try simp at this); omega
      case c5 =>
       intro v' w2 hown2 hg2 _
       have hb2 := (hbC.alloc (hbC.size) _).grown hg2 (by simp; have := hbC.size; (try simp at this); omega) (own_lt hown)
       have hown3 : w2.ownsRow w.heap.size 109 2 v' (l ++ [(0, x)]).length (flatP (l ++ [(0, x)])) := by rw [flatP_append, List.length_append]; exact hown2
       have HO := Lib.hid hown3
       have HB2 := Lib.hid hb2
       clear hown2 hg2 hown3 hb2
       go_wp2
       go_roundw
       case rel => exact ⟨l ++ [(0, x)], _, hes, rfl, by rw [List.length_append]; simp; omega, HO.out, HN, HB2.out⟩
       case measure => simp [RowKit.intOf]; omega
   ·have hli : ¬ (a : Int) + 1 < (s.size : Int) := by omega
    clear n1 n2
    have hK : kindAt s (a + 1) = 0 := hK0
    obtain ⟨⟨e, g⟩, hr⟩ : ∃ r, r = endAt s (a + 1) := ⟨_, rfl⟩
    rw [← hr] at hES
    obtain ⟨hfe, hes⟩ := hES
    dsimp only at hfe hes
    have hfr : fromAt s (a + 1) = a + 1 := by unfold fromAt; rw [if_pos hK]
    rw [hfr] at hfe
    have HPC := Lib.hid (show pcAt s (a + 1) = (0, s.extract (a + 1) e) by unfold pcAt; rw [hK, hfr, ← hr])
    have HCALL := Lib.hid (fun w => staticEnd_any s (a + 1) w (by omega) (by omega))
    rw [show statE s (a + 1) = (e, g) by rw [hr]; unfold endAt; rw [if_pos hK]] at HCALL
    rw [c1] at HCALL
    unfold endVal at HCALL
    dsimp only at HCALL
    have hmin : min ((a : Int) + 1 : Int) (e : Int) = (a : Int) + 1 := by omega
    have hle : ((a : Int) + 1 : Int) ≤ (e : Int) := by omega
    have HKH := Lib.hid hK
    have HE := Lib.hid hr.symm
    generalize hx : s.extract (a + 1) e = x at *
    have HX := Lib.hid hx
    have hbC := hbw.alloc hbw.size (.cells #[.int .i64 0, .string x] 109)
    clear hK hr hFG hfr
    cases g
    ·have hW := wrong_not HE.out
     have HB := Lib.hid (hBAD.out (by rw [hW]; simp))
     rw [HE.out] at HB
     clear hBAD hNEXT
     go_wp2_with fail
     refine (HCALL.out _).mono ?_
     rintro e' w1 ⟨rfl, rfl⟩
     go_wp2
     go_ret3
     exact gives_bad HB.out hbC
    ·by_cases hes2 : e < s.size
     ·exfalso; omega
     ·obtain rfl : e = s.size := by omega
      have hW := wrong_end HE.out (by omega)
      have HN := Lib.hid (hNEXT.out (by rw [hW, HPC.out, twice_zero rfl]; rfl))
      rw [HPC.out, HE.out] at HN
      have hown1 := hown.alloc (.cells #[.int .i64 0, .string x] 109)
      clear hBAD hNEXT hW HPC HE HX HKH
      go_wp2_with fail
      refine (HCALL.out _).mono ?_
      rintro e' w1 ⟨rfl, rfl⟩
      go_wp2_with (at_builtin; refine wpList_append_any _ rfl (.tmp 99) (.tmp 101) 104 rfl w.heap.size 109 i0 (.agg #[.int .i64 0, .string ⟨#[]⟩]) 2 24 Tryz.underlying104 hi0 hz0 hz1 hz2 rfl (by decide) _ _ _ rfl (hown1.alloc _) _ (some ⟨wr.heap.size + 1, 0, none⟩) 1 1 [.int .i64 0, .string x] rfl (reads_of_row (row_newc (wr.alloc (.cells #[.int .i64 0, .string x] 109)) _ 109 (by simp)) rfl (by decide)) ?c1 ?c2 ?c3 ?c4 ?c5)
      case c1 => exact flatP_oneCell [(0, x)]
      case c2 => unfold maxLen; omega
      case c3 => omega
      case c4 => simp; have := hbC.size; (try simp at this); omega
      case c5 =>
       intro v' w2 hown2 hg2 _
       have hb2 := (hbC.alloc (hbC.size) _).grown hg2 (by simp; have := hbC.size; (try simp at this); omega) (own_lt hown)
       have hown3 : w2.ownsRow w.heap.size 109 2 v' (l ++ [(0, x)]).length (flatP (l ++ [(0, x)])) := by rw [flatP_append, List.length_append]; exact hown2
       have HO := Lib.hid hown3
       have HB2 := Lib.hid hb2
       clear hown2 hg2 hown3 hb2
       go_wp2
       go_roundw
       case rel => exact ⟨l ++ [(0, x)], _, hes, rfl, by rw [List.length_append]; simp; omega, HO.out, HN, HB2.out⟩
       case measure => simp [RowKit.intOf]; omega
  ·have hbi := @bt_eq s (a + 1) n0
   have hli : (a : Int) + 1 < (s.size : Int) := by omega
   have q1 : (bt s (a + 1) == 58) = true := by rw [n1]; rfl
   have q2 : (bt s (a + 1) == 42) = false := by rw [n1]; rfl
   clear n1
   have hK : kindAt s (a + 1) = 1 := hK0
   obtain ⟨⟨e, g⟩, hr⟩ : ∃ r, r = endAt s (a + 1) := ⟨_, rfl⟩
   rw [← hr] at hES
   obtain ⟨hfe, hes⟩ := hES
   dsimp only at hfe hes
   have hfr : fromAt s (a + 1) = a + 1 + 1 := by unfold fromAt; rw [if_neg (by rw [hK]; decide)]
   rw [hfr] at hfe
   have HPC := Lib.hid (show pcAt s (a + 1) = (1, s.extract (a + 1 + 1) e) by unfold pcAt; rw [hK, hfr, ← hr])
   have HCALL := Lib.hid (fun w => nameEnd_any s (a + 1 + 1) w (by omega) (by omega))
   rw [show nameE s (a + 1 + 1) = (e, g) by rw [hr]; unfold endAt; rw [if_neg (by rw [hK]; decide)]] at HCALL
   rw [c2] at HCALL
   unfold endVal at HCALL
   dsimp only at HCALL
   have hmin : min ((a : Int) + 1 + 1 : Int) (e : Int) = (a : Int) + 1 + 1 := by omega
   have hle : ((a : Int) + 1 + 1 : Int) ≤ (e : Int) := by omega
   have HKH := Lib.hid hK
   have HE := Lib.hid hr.symm
   generalize hx : s.extract (a + 1 + 1) e = x at *
   have HX := Lib.hid hx
   have hbC := hbw.alloc hbw.size (.cells #[.int .i64 1, .string x] 109)
   clear hK hr hFG hfr
   cases g
   ·have hW := wrong_not HE.out
    have HB := Lib.hid (hBAD.out (by rw [hW]; simp))
    rw [HE.out] at HB
    clear hBAD hNEXT
    go_wp2_with fail
    refine (HCALL.out _).mono ?_
    rintro e' w1 ⟨rfl, rfl⟩
    go_wp2
    go_ret3
    exact gives_bad HB.out hbC
   ·by_cases hes2 : e < s.size
    ·have hbe := @bt_eq s e hes2
     by_cases hsl : bt s e = 47
     ·have hq : (bt s e != 47) = false := by rw [hsl]; rfl
      have hW := wrong_slash HE.out hes2 (by rw [HKH.out]; decide) hsl
      have hrow := (own_row hown).alloc (.cells #[.int .i64 1, .string x] 109)
      have HCF := Lib.hid (ContainsFunc_pc A c l (1, x) wr.heap.size _ hrow (by omega) (by simp) (by simp))
      cases htw : l.any (sameName (1, x))
      ·have HN := Lib.hid (hNEXT.out (by rw [hW, HPC.out, twice_any (by simp), htw]; rfl))
       rw [HPC.out, HE.out] at HN
       rw [htw] at HCF
       clear hBAD hNEXT hW HPC HE HX HKH htw hrow
       go_wp2_with fail
       refine (HCALL.out _).mono ?_
       rintro e' w1 ⟨rfl, rfl⟩
       go_wp2_with fail
       refine HCF.out.mono ?_
       rintro e' w1 ⟨rfl, hb1⟩
       have hb1 : Below (wr.heap.size + 1) (wr.alloc (.cells #[.int .i64 1, .string x] 109)) w1 := by simpa using hb1
       obtain ⟨hc0, hc1⟩ := box_two hb1
       have hown1 := own_below (hown.alloc (.cells #[.int .i64 1, .string x] 109)) (by simpa using hb1)
       have hbD : Below w.heap.size w w1 := hbC.trans (hb1.mono (by have := hbw.size; omega))
       clear hb1 HCF
       go_wp2_with (at_builtin; refine wpList_append_any _ rfl (.tmp 99) (.tmp 101) 104 rfl w.heap.size 109 i0 (.agg #[.int .i64 0, .string ⟨#[]⟩]) 2 24 Tryz.underlying104 hi0 hz0 hz1 hz2 rfl (by decide) _ _ _ rfl (hown1.alloc _) _ (some ⟨w1.heap.size, 0, none⟩) 1 1 [.int .i64 1, .string x] rfl (reads_of_row (row_newc w1 _ 109 (by simp)) rfl (by decide)) ?c1 ?c2 ?c3 ?c4 ?c5)
       case c1 => exact flatP_oneCell [(1, x)]
       case c2 => unfold maxLen; omega
       case c3 => omega
       case c4 => simp; have := hbD.size; (try simp at this); omega
       case c5 =>
        intro v' w2 hown2 hg2 _
        have hb2 := (hbD.alloc (hbD.size) _).grown hg2 (by simp; have := hbD.size; (try simp at this); omega) (own_lt hown)
        have hown3 : w2.ownsRow w.heap.size 109 2 v' (l ++ [(1, x)]).length (flatP (l ++ [(1, x)])) := by rw [flatP_append, List.length_append]; exact hown2
        have HO := Lib.hid hown3
        have HB2 := Lib.hid hb2
        clear hown2 hg2 hown3 hb2
        go_wp2
        go_roundw
        case rel => exact ⟨l ++ [(1, x)], _, hes, rfl, by rw [List.length_append]; simp; omega, HO.out, HN, HB2.out⟩
        case measure => simp [RowKit.intOf]; omega
      ·have HB := Lib.hid (hBAD.out (by rw [HPC.out, twice_any (by simp), htw]; simp))
       rw [HE.out] at HB
       rw [htw] at HCF
       clear hBAD hNEXT hW HPC HE HX HKH htw hrow
       go_wp2_with fail
       refine (HCALL.out _).mono ?_
       rintro e' w1 ⟨rfl, rfl⟩
       go_wp2_with fail
       refine HCF.out.mono ?_
       rintro e' w1 ⟨rfl, hb1⟩
       have hb1 : Below (wr.heap.size + 1) (wr.alloc (.cells #[.int .i64 1, .string x] 109)) w1 := by simpa using hb1
       have hbD : Below w.heap.size w w1 := hbC.trans (hb1.mono (by have := hbw.size; omega))
       clear hb1 HCF
       go_wp2
       go_ret3
       exact gives_bad HB.out hbD
     ·have hq : (bt s e != 47) = true := by simpa using hsl
      have hW := wrong_other HE.out hes2 hsl
      clear hsl
      have HB := Lib.hid (hBAD.out (by rw [hW]; simp))
      rw [HE.out] at HB
      clear hBAD hNEXT
      go_wp2_with fail
      refine (HCALL.out _).mono ?_
      rintro e' w1 ⟨rfl, rfl⟩
      go_wp2
      go_ret3
      exact gives_bad HB.out hbC
    ·obtain rfl : e = s.size := by omega
     have hW := wrong_end HE.out (by omega)
     have hrow := (own_row hown).alloc (.cells #[.int .i64 1, .string x] 109)
     have HCF := Lib.hid (ContainsFunc_pc A c l (1, x) wr.heap.size _ hrow (by omega) (by simp) (by simp))
     cases htw : l.any (sameName (1, x))
     ·have HN := Lib.hid (hNEXT.out (by rw [hW, HPC.out, twice_any (by simp), htw]; rfl))
      rw [HPC.out, HE.out] at HN
      rw [htw] at HCF
      clear hBAD hNEXT hW HPC HE HX HKH htw hrow
      go_wp2_with fail
      refine (HCALL.out _).mono ?_
      rintro e' w1 ⟨rfl, rfl⟩
      go_wp2_with fail
      refine HCF.out.mono ?_
      rintro e' w1 ⟨rfl, hb1⟩
      have hb1 : Below (wr.heap.size + 1) (wr.alloc (.cells #[.int .i64 1, .string x] 109)) w1 := by simpa using hb1
      obtain ⟨hc0, hc1⟩ := box_two hb1
      have hown1 := own_below (hown.alloc (.cells #[.int .i64 1, .string x] 109)) (by simpa using hb1)
      have hbD : Below w.heap.size w w1 := hbC.trans (hb1.mono (by have := hbw.size; omega))
      clear hb1 HCF
      go_wp2_with (at_builtin; refine wpList_append_any _ rfl (.tmp 99) (.tmp 101) 104 rfl w.heap.size 109 i0 (.agg #[.int .i64 0, .string ⟨#[]⟩]) 2 24 Tryz.underlying104 hi0 hz0 hz1 hz2 rfl (by decide) _ _ _ rfl (hown1.alloc _) _ (some ⟨w1.heap.size, 0, none⟩) 1 1 [.int .i64 1, .string x] rfl (reads_of_row (row_newc w1 _ 109 (by simp)) rfl (by decide)) ?c1 ?c2 ?c3 ?c4 ?c5)
      case c1 => exact flatP_oneCell [(1, x)]
      case c2 => unfold maxLen; omega
      case c3 => omega
      case c4 => simp; have := hbD.size; (try simp at this); omega
      case c5 =>
       intro v' w2 hown2 hg2 _
       have hb2 := (hbD.alloc (hbD.size) _).grown hg2 (by simp; have := hbD.size; (try simp at this); omega) (own_lt hown)
       have hown3 : w2.ownsRow w.heap.size 109 2 v' (l ++ [(1, x)]).length (flatP (l ++ [(1, x)])) := by rw [flatP_append, List.length_append]; exact hown2
       have HO := Lib.hid hown3
       have HB2 := Lib.hid hb2
       clear hown2 hg2 hown3 hb2
       go_wp2
       go_roundw
       case rel => exact ⟨l ++ [(1, x)], _, hes, rfl, by rw [List.length_append]; simp; omega, HO.out, HN, HB2.out⟩
       case measure => simp [RowKit.intOf]; omega
     ·have HB := Lib.hid (hBAD.out (by rw [HPC.out, twice_any (by simp), htw]; simp))
      rw [HE.out] at HB
      rw [htw] at HCF
      clear hBAD hNEXT hW HPC HE HX HKH htw hrow
      go_wp2_with fail
      refine (HCALL.out _).mono ?_
      rintro e' w1 ⟨rfl, rfl⟩
      go_wp2_with fail
      refine HCF.out.mono ?_
      rintro e' w1 ⟨rfl, hb1⟩
      have hb1 : Below (wr.heap.size + 1) (wr.alloc (.cells #[.int .i64 1, .string x] 109)) w1 := by simpa using hb1
      have hbD : Below w.heap.size w w1 := hbC.trans (hb1.mono (by have := hbw.size; omega))
      clear hb1 HCF
      go_wp2
      go_ret3
      exact gives_bad HB.out hbD
  ·have hbi := @bt_eq s (a + 1) n0
   have hli : (a : Int) + 1 < (s.size : Int) := by omega
   have q1 : (bt s (a + 1) == 58) = false := by rw [n1]; rfl
   have q2 : (bt s (a + 1) == 42) = true := by rw [n1]; rfl
   clear n1
   have hK : kindAt s (a + 1) = 2 := hK0
   obtain ⟨⟨e, g⟩, hr⟩ : ∃ r, r = endAt s (a + 1) := ⟨_, rfl⟩
   rw [← hr] at hES
   obtain ⟨hfe, hes⟩ := hES
   dsimp only at hfe hes
   have hfr : fromAt s (a + 1) = a + 1 + 1 := by unfold fromAt; rw [if_neg (by rw [hK]; decide)]
   rw [hfr] at hfe
   have HPC := Lib.hid (show pcAt s (a + 1) = (2, s.extract (a + 1 + 1) e) by unfold pcAt; rw [hK, hfr, ← hr])
   have HCALL := Lib.hid (fun w => nameEnd_any s (a + 1 + 1) w (by omega) (by omega))
   rw [show nameE s (a + 1 + 1) = (e, g) by rw [hr]; unfold endAt; rw [if_neg (by rw [hK]; decide)]] at HCALL
   rw [c2] at HCALL
   unfold endVal at HCALL
   dsimp only at HCALL
   have hmin : min ((a : Int) + 1 + 1 : Int) (e : Int) = (a : Int) + 1 + 1 := by omega
   have hle : ((a : Int) + 1 + 1 : Int) ≤ (e : Int) := by omega
   have HKH := Lib.hid hK
   have HE := Lib.hid hr.symm
   generalize hx : s.extract (a + 1 + 1) e = x at *
   have HX := Lib.hid hx
   have hbC := hbw.alloc hbw.size (.cells #[.int .i64 2, .string x] 109)
   clear hK hr hFG hfr
   cases g
   ·have hW := wrong_not HE.out
    have HB := Lib.hid (hBAD.out (by rw [hW]; simp))
    rw [HE.out] at HB
    clear hBAD hNEXT
    go_wp2_with fail
    refine (HCALL.out _).mono ?_
    rintro e' w1 ⟨rfl, rfl⟩
    go_wp2
    go_ret3
    exact gives_bad HB.out hbC
   ·by_cases hes2 : e < s.size
    ·have hbe := @bt_eq s e hes2
     have hW := wrong_rest HE.out hes2 HKH.out
     have HB := Lib.hid (hBAD.out (by rw [hW]; simp))
     rw [HE.out] at HB
     clear hBAD hNEXT
     go_wp2_with fail
     refine (HCALL.out _).mono ?_
     rintro e' w1 ⟨rfl, rfl⟩
     go_wp2
     go_ret3
     exact gives_bad HB.out hbC
    ·obtain rfl : e = s.size := by omega
     have hW := wrong_end HE.out (by omega)
     have hrow := (own_row hown).alloc (.cells #[.int .i64 2, .string x] 109)
     have HCF := Lib.hid (ContainsFunc_pc A c l (2, x) wr.heap.size _ hrow (by omega) (by simp) (by simp))
     cases htw : l.any (sameName (2, x))
     ·have HN := Lib.hid (hNEXT.out (by rw [hW, HPC.out, twice_any (by simp), htw]; rfl))
      rw [HPC.out, HE.out] at HN
      rw [htw] at HCF
      clear hBAD hNEXT hW HPC HE HX HKH htw hrow
      go_wp2_with fail
      refine (HCALL.out _).mono ?_
      rintro e' w1 ⟨rfl, rfl⟩
      go_wp2_with fail
      refine HCF.out.mono ?_
      rintro e' w1 ⟨rfl, hb1⟩
      have hb1 : Below (wr.heap.size + 1) (wr.alloc (.cells #[.int .i64 2, .string x] 109)) w1 := by simpa using hb1
      obtain ⟨hc0, hc1⟩ := box_two hb1
      have hown1 := own_below (hown.alloc (.cells #[.int .i64 2, .string x] 109)) (by simpa using hb1)
      have hbD : Below w.heap.size w w1 := hbC.trans (hb1.mono (by have := hbw.size; omega))
      clear hb1 HCF
      go_wp2_with (at_builtin; refine wpList_append_any _ rfl (.tmp 99) (.tmp 101) 104 rfl w.heap.size 109 i0 (.agg #[.int .i64 0, .string ⟨#[]⟩]) 2 24 Tryz.underlying104 hi0 hz0 hz1 hz2 rfl (by decide) _ _ _ rfl (hown1.alloc _) _ (some ⟨w1.heap.size, 0, none⟩) 1 1 [.int .i64 2, .string x] rfl (reads_of_row (row_newc w1 _ 109 (by simp)) rfl (by decide)) ?c1 ?c2 ?c3 ?c4 ?c5)
      case c1 => exact flatP_oneCell [(2, x)]
      case c2 => unfold maxLen; omega
      case c3 => omega
      case c4 => simp; have := hbD.size; (try simp at this); omega
      case c5 =>
       intro v' w2 hown2 hg2 _
       have hb2 := (hbD.alloc (hbD.size) _).grown hg2 (by simp; have := hbD.size; (try simp at this); omega) (own_lt hown)
       have hown3 : w2.ownsRow w.heap.size 109 2 v' (l ++ [(2, x)]).length (flatP (l ++ [(2, x)])) := by rw [flatP_append, List.length_append]; exact hown2
       have HO := Lib.hid hown3
       have HB2 := Lib.hid hb2
       clear hown2 hg2 hown3 hb2
       go_wp2
       go_roundw
       case rel => exact ⟨l ++ [(2, x)], _, hes, rfl, by rw [List.length_append]; simp; omega, HO.out, HN, HB2.out⟩
       case measure => simp [RowKit.intOf]; omega
     ·have HB := Lib.hid (hBAD.out (by rw [HPC.out, twice_any (by simp), htw]; simp))
      rw [HE.out] at HB
      rw [htw] at HCF
      clear hBAD hNEXT hW HPC HE HX HKH htw hrow
      go_wp2_with fail
      refine (HCALL.out _).mono ?_
      rintro e' w1 ⟨rfl, rfl⟩
      go_wp2_with fail
      refine HCF.out.mono ?_
      rintro e' w1 ⟨rfl, hb1⟩
      have hb1 : Below (wr.heap.size + 1) (wr.alloc (.cells #[.int .i64 2, .string x] 109)) w1 := by simpa using hb1
      have hbD : Below w.heap.size w w1 := hbC.trans (hb1.mono (by have := hbw.size; omega))
      clear hb1 HCF
      go_wp2
      go_ret3
      exact gives_bad HB.out hbD
set_option maxRecDepth 20000 in
theorem split_any (s : ByteArray) (w : World) (hs : s.size ≤ 4194304) :
  Calls Tryz.prog 49 #[.string s] w (GivesRd w (splitP s)) := by
 have HRD := Lib.hid (read_any s w hs)
 unfold splitP
 have hsp := readP_spec s
 generalize readP s = r at *
 obtain ⟨l, p, g⟩ := r
 by_cases hb : 1024 < s.size ∧ (g = true ∨ 1024 < p)
 ·have HC := Lib.hid (show capP s.size (l, p, g) = ([], 1024, false) from if_pos hb)
  obtain ⟨h1, h2⟩ := hb
  have d1 : (1024 : Int) < (s.size : Int) := by omega
  clear hsp
  cases g
  ·have h3 : 1024 < p := by
    rcases h2 with h2 | h2
    ·cases h2
    ·exact h2
   have d2 : (1024 : Int) < (p : Int) := by omega
   clear h2
   go_enter Tryz.func49, Tryz.ntmps49
   go_wp2_with fail
   refine HRD.out.mono ?_
   rintro e w1 ⟨A, c, rfl, ho, hbw⟩
   dsimp only
   go_wp2
   go_ret3
   exact gives_bad HC.out hbw
  ·clear h2
   go_enter Tryz.func49, Tryz.ntmps49
   go_wp2_with fail
   refine HRD.out.mono ?_
   rintro e w1 ⟨A, c, rfl, ho, hbw⟩
   dsimp only
   go_wp2
   go_ret3
   exact gives_bad HC.out hbw
 ·have HC := Lib.hid (show capP s.size (l, p, g) = (l, p, g) from if_neg hb)
  by_cases h1 : 1024 < s.size
  ·have d1 : (1024 : Int) < (s.size : Int) := by omega
   cases g
   ·have h3 : ¬ 1024 < p := fun x => hb ⟨h1, .inr x⟩
    have d2 : ¬ (1024 : Int) < (p : Int) := by omega
    clear hb hsp
    go_enter Tryz.func49, Tryz.ntmps49
    go_wp2_with fail
    refine HRD.out.mono ?_
    rintro e w1 ⟨A, c, rfl, ho, hbw⟩
    dsimp only at ho
    dsimp only
    go_wp2
    go_ret3
    rw [HC.out]
    exact ⟨A, c, rfl, ho, hbw⟩
   ·exact absurd ⟨h1, .inl rfl⟩ hb
  ·have d1 : ¬ (1024 : Int) < (s.size : Int) := by omega
   clear hb hsp
   go_enter Tryz.func49, Tryz.ntmps49
   go_wp2_with fail
   refine HRD.out.mono ?_
   rintro e w1 ⟨A, c, rfl, ho, hbw⟩
   dsimp only at ho
   dsimp only
   go_wp2
   go_ret3
   rw [HC.out]
   exact ⟨A, c, rfl, ho, hbw⟩
def chkVal (r : Int × Int) : Value := .tuple #[.int .i64 r.1, .int .i64 r.2]
set_option maxRecDepth 20000 in
theorem Check_any (s : ByteArray) (w : World) (hs : s.size ≤ 4194304) :
  Calls Tryz.prog 70 #[.string s] w fun e w' => e = .returned (chkVal (checkP s)) ∧ Below w.heap.size w w' := by
 have HSP := Lib.hid (split_any s w hs)
 unfold checkP
 generalize splitP s = r at *
 obtain ⟨l, p, g⟩ := r
 cases g
 ·have HC := Lib.hid (show chkR (l, p, false) = ((p : Int), 130) from rfl)
  go_enter Tryz.func70, Tryz.ntmps70
  go_wp2_with fail
  refine HSP.out.mono ?_
  rintro e w1 ⟨A, c, rfl, ho, hbw⟩
  clear ho
  dsimp only
  go_wp2
  go_ret2
  rw [HC.out]
  exact ⟨rfl, hbw⟩
 ·have HC := Lib.hid (show chkR (l, p, true) = (0, 0) from rfl)
  go_enter Tryz.func70, Tryz.ntmps70
  go_wp2_with fail
  refine HSP.out.mono ?_
  rintro e w1 ⟨A, c, rfl, ho, hbw⟩
  clear ho
  dsimp only
  go_wp2
  go_ret2
  rw [HC.out]
  exact ⟨rfl, hbw⟩
end Go.Proofs.YtiohmnhbmmhnhaaGreatDoor
