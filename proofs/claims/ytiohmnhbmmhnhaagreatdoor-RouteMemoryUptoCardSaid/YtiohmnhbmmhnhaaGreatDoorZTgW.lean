/-
 TgW, without what this claim does not reach.
-/
import Derived.Test.YtiohmnhbmmhnhaaGreatDoorZTgO
import Derived.Test.YtiohmnhbmmhnhaaGreatDoorZTgP
namespace Go.Proofs.YtiohmnhbmmhnhaaGreatDoor
open Go.RowKit Go.Shelf Go.Lib
theorem alnum_yes {c : Int} (h : alnum c = true) : (48 ≤ c ∧ c ≤ 57) ∨ (65 ≤ c ∧ c ≤ 90) ∨ (97 ≤ c ∧ c ≤ 122) := by simp [alnum] at h; omega
theorem alnum_no {c : Int} (h : alnum c = false) : c < 48 ∨ (57 < c ∧ c < 65) ∨ (90 < c ∧ c < 97) ∨ 122 < c := by simp [alnum] at h; omega
theorem unres_alnum {c : Int} (h : alnum c = true) : unres c = true := by unfold unres; rw [h]; rfl
theorem unres_in {c : Int} (h : alnum c = false) : unres c = inB dashes c := by unfold unres; rw [h]; rfl
theorem class_rest {c : Int} (hu : unres c = false) (hs : subd c = false) : ((c == 58) = true ∧ classI c = 4) ∨ ((c == 58) = false ∧ (c == 64) = true ∧ classI c = 4) ∨ ((c == 58) = false ∧ (c == 64) = false ∧ (c == 47) = true ∧ classI c = 8) ∨ ((c == 58) = false ∧ (c == 64) = false ∧ (c == 47) = false ∧ (c == 63) = true ∧ classI c = 16) ∨ ((c == 58) = false ∧ (c == 64) = false ∧ (c == 47) = false ∧ (c == 63) = false ∧ classI c = 0) := by
 unfold classI
 rw [if_neg (by rw [hu]; simp), if_neg (by rw [hs]; simp)]
 by_cases h1 : c = 58
 ·rw [if_pos (.inl h1)]; exact .inl ⟨beq_iff_eq.2 h1, rfl⟩
 ·have g1 := beq_eq_false_iff_ne.2 h1
  by_cases h2 : c = 64
  ·rw [if_pos (.inr h2)]; exact .inr (.inl ⟨g1, beq_iff_eq.2 h2, rfl⟩)
  ·have g2 := beq_eq_false_iff_ne.2 h2
   rw [if_neg (by omega)]
   by_cases h3 : c = 47
   ·rw [if_pos h3]; exact .inr (.inr (.inl ⟨g1, g2, beq_iff_eq.2 h3, rfl⟩))
   ·have g3 := beq_eq_false_iff_ne.2 h3
    rw [if_neg h3]
    by_cases h4 : c = 63
    ·rw [if_pos h4]; exact .inr (.inr (.inr (.inl ⟨g1, g2, g3, beq_iff_eq.2 h4, rfl⟩)))
    ·rw [if_neg h4]; exact .inr (.inr (.inr (.inr ⟨g1, g2, g3, beq_eq_false_iff_ne.2 h4, rfl⟩)))
set_option maxRecDepth 20000 in
set_option maxHeartbeats 1000000 in
theorem class_any (c : Int) (w : World) (h0 : 0 ≤ c) (h1 : c < 256) :
  Calls Tryz.prog 136 #[.int .u8 c] w fun e w' => e = .returned (.int .i64 (classI c)) ∧ w = w' := by
 cases ha : alnum c
 ·have HD := Lib.hid (fun w => IndexByte_any ⟨#[45, 46, 95, 126]⟩ c w h0 h1)
  have HS := Lib.hid (fun w => IndexByte_any ⟨#[33, 36, 38, 39, 40, 41, 42, 43, 44, 59, 61]⟩ c w h0 h1)
  have hd := inB_find ⟨#[45, 46, 95, 126]⟩ c
  have hs := inB_find ⟨#[33, 36, 38, 39, 40, 41, 42, 43, 44, 59, 61]⟩ c
  have hu := unres_in ha
  have hgap := alnum_no ha
  change unres c = inB ⟨#[45, 46, 95, 126]⟩ c at hu
  cases hud : inB ⟨#[45, 46, 95, 126]⟩ c
  ·rw [hud] at hu
   have hd := hd.2 hud
   cases hsd : inB ⟨#[33, 36, 38, 39, 40, 41, 42, 43, 44, 59, 61]⟩ c
   ·have hs := hs.2 hsd
    have hcl := class_rest hu hsd
    rw [hd] at HD
    rw [hs] at HS
    clear hd hs hu hud hsd ha
    rcases hcl with ⟨t1, hc⟩ | ⟨t1, t2, hc⟩ | ⟨t1, t2, t3, hc⟩ | ⟨t1, t2, t3, t4, hc⟩ | ⟨t1, t2, t3, t4, hc⟩
    all_goals
     have HC := Lib.hid hc
     clear hc
     rcases hgap with g1 | ⟨g1, g2⟩ | ⟨g1, g2⟩ | g1
    all_goals
     go_enter Tryz.func136, Tryz.ntmps136
     go_wp2_with fail
     refine (HD.out _).mono ?_
     rintro e w' ⟨rfl, rfl⟩
     go_wp2_with fail
     refine (HS.out _).mono ?_
     rintro e w' ⟨rfl, rfl⟩
     go_wp2
     go_ret
     exact ⟨ret_int HC.out.symm, rfl⟩
   ·have hs := hs.1 hsd
    have HC := Lib.hid (class_sub hu hsd)
    rw [hd] at HD
    clear hd hu hud hsd ha
    generalize findB ⟨#[33, 36, 38, 39, 40, 41, 42, 43, 44, 59, 61]⟩ c = q at *
    rcases hgap with g1 | ⟨g1, g2⟩ | ⟨g1, g2⟩ | g1
    all_goals
     go_enter Tryz.func136, Tryz.ntmps136
     go_wp2_with fail
     refine (HD.out _).mono ?_
     rintro e w' ⟨rfl, rfl⟩
     go_wp2_with fail
     refine (HS.out _).mono ?_
     rintro e w' ⟨rfl, rfl⟩
     go_wp2
     go_ret
     exact ⟨ret_int HC.out.symm, rfl⟩
  ·rw [hud] at hu
   have hd := hd.1 hud
   have HC := Lib.hid (class_unres hu)
   clear hs HS hu hud ha
   generalize findB ⟨#[45, 46, 95, 126]⟩ c = q at *
   rcases hgap with g1 | ⟨g1, g2⟩ | ⟨g1, g2⟩ | g1
   all_goals
    go_enter Tryz.func136, Tryz.ntmps136
    go_wp2_with fail
    refine (HD.out _).mono ?_
    rintro e w' ⟨rfl, rfl⟩
    go_wp2
    go_ret
    exact ⟨ret_int HC.out.symm, rfl⟩
 ·have HC := Lib.hid (class_unres (unres_alnum ha))
  have hr := alnum_yes ha
  clear ha
  rcases hr with ⟨g1, g2⟩ | ⟨g1, g2⟩ | ⟨g1, g2⟩
  all_goals
   go_enter Tryz.func136, Tryz.ntmps136
   go_wp2
   go_ret
   exact ⟨ret_int HC.out.symm, rfl⟩
theorem digV_cases (c : Int) (h0 : 0 ≤ c) (h1 : c < 256) : (48 ≤ c ∧ c ≤ 57 ∧ digV c = c - 48) ∨ (97 ≤ c ∧ c ≤ 102 ∧ digV c = c - 97 + 10) ∨ (65 ≤ c ∧ c ≤ 70 ∧ digV c = c - 65 + 10) ∨ (((c < 48) ∨ (57 < c ∧ c < 65) ∨ (70 < c ∧ c < 97) ∨ 102 < c) ∧ digV c = -1) := by
 unfold digV
 by_cases a : 48 ≤ c ∧ c ≤ 57
 ·rw [if_pos a]; exact .inl ⟨a.1, a.2, rfl⟩
 ·rw [if_neg a]
  by_cases b : 97 ≤ c ∧ c ≤ 102
  ·rw [if_pos b]; exact .inr (.inl ⟨b.1, b.2, by omega⟩)
  ·rw [if_neg b]
   by_cases d : 65 ≤ c ∧ c ≤ 70
   ·rw [if_pos d]; exact .inr (.inr (.inl ⟨d.1, d.2, by omega⟩))
   ·rw [if_neg d]; exact .inr (.inr (.inr ⟨by omega, rfl⟩))
set_option maxRecDepth 20000 in
theorem digit_any (c : Int) (w : World) (h0 : 0 ≤ c) (h1 : c < 256) :
  Calls Tryz.prog 160 #[.int .u8 c] w fun e w' => e = .returned (.int .i64 (digV c)) ∧ w = w' := by
 rcases digV_cases c h0 h1 with ⟨g1, g2, h⟩ | ⟨g1, g2, h⟩ | ⟨g1, g2, h⟩ | ⟨g, h⟩
 case' inr.inr.inr => rcases g with g1 | ⟨g1, g2⟩ | ⟨g1, g2⟩ | g1
 all_goals
  have HC := Lib.hid h
  clear h
  go_enter Tryz.func160, Tryz.ntmps160
  go_wp2
  go_ret
  exact ⟨ret_int HC.out.symm, rfl⟩
def GivesTri (w : World) (s : ByteArray) (i : Nat) (e : Ending) (w' : World) : Prop := ∃ v : Int, e = .returned (.tuple #[.int .u8 v, .bool (tri s i)]) ∧ (tri s i = true → v = triV s i) ∧ ∃ q : Nat, w' = w.drewN q
theorem tri_sum {a b : Int} (h0 : 0 ≤ a) (h1 : a < 16) (h2 : 0 ≤ b) (h3 : b < 16) : bits BinOp.or IntKind.i64 (a * 16) (bits BinOp.and IntKind.i64 b 15) = a * 16 + b := by
 obtain ⟨n, rfl⟩ := Int.eq_ofNat_of_zero_le h0
 obtain ⟨m, rfl⟩ := Int.eq_ofNat_of_zero_le h2
 have key : ∀ n : Nat, n < 16 → ∀ m : Nat, m < 16 → bits BinOp.or IntKind.i64 ((n : Int) * 16) (bits BinOp.and IntKind.i64 (m : Int) 15) = (n : Int) * 16 + m := by decide +kernel
 exact key n (by omega) m (by omega)
end Go.Proofs.YtiohmnhbmmhnhaaGreatDoor
