/-
 RxC, without what this claim does not reach.
-/
import Derived.Test.YtiohmnhbmmhnhaaGreatDoorZRxR
import Derived.Test.YtiohmnhbmmhnhaaGreatDoorZTgSp
namespace Go.Proofs.YtiohmnhbmmhnhaaGreatDoor
open Go.RowKit Go.Shelf Go.Lib
theorem nameB_first (c : Int) (first : Bool) : (isLet c || (!first && (isDgt c || decide (c = 95)))) = if first = true then letB c else nameB c := by
 rw [letB_isLet, digB_isDgt]
 cases first
 ·rfl
 ·simp
set_option maxRecDepth 20000 in
theorem rNameByte_any (c : Int) (first : Bool) (w : World) :
  Calls Tryz.prog 119 #[.int .u8 c, .bool first] w fun e w' => e = .returned (.bool (if first = true then letB c else nameB c)) ∧ w = w' := by
 rw [← nameB_first]
 have HL := Lib.hid (fun w => rLetter_any c w)
 have HD := Lib.hid (fun w => rDigit_any c w)
 generalize isLet c = a at *
 generalize isDgt c = b at *
 cases a
 ·cases first
  ·cases b
   ·by_cases h : c = 95
    ·have hq : (c == 95) = true := by rw [h]; rfl
     rw [decide_eq_true h]
     clear h
     go_enter Tryz.func119, Tryz.ntmps119
     go_wp2_with fail
     refine (HL.out _).mono ?_
     rintro e w' ⟨rfl, rfl⟩
     go_wp2_with fail
     refine (HD.out _).mono ?_
     rintro e w' ⟨rfl, rfl⟩
     go_wp2
     go_ret
     exact ⟨rfl, rfl⟩
    ·have hq : (c == 95) = false := by simpa using h
     rw [decide_eq_false h]
     clear h
     go_enter Tryz.func119, Tryz.ntmps119
     go_wp2_with fail
     refine (HL.out _).mono ?_
     rintro e w' ⟨rfl, rfl⟩
     go_wp2_with fail
     refine (HD.out _).mono ?_
     rintro e w' ⟨rfl, rfl⟩
     go_wp2
     go_ret
     exact ⟨rfl, rfl⟩
   ·go_enter Tryz.func119, Tryz.ntmps119
    go_wp2_with fail
    refine (HL.out _).mono ?_
    rintro e w' ⟨rfl, rfl⟩
    go_wp2_with fail
    refine (HD.out _).mono ?_
    rintro e w' ⟨rfl, rfl⟩
    go_wp2
    go_ret
    exact ⟨rfl, rfl⟩
  ·go_enter Tryz.func119, Tryz.ntmps119
   go_wp2_with fail
   refine (HL.out _).mono ?_
   rintro e w' ⟨rfl, rfl⟩
   go_wp2
   go_ret
   exact ⟨rfl, rfl⟩
 ·go_enter Tryz.func119, Tryz.ntmps119
  go_wp2_with fail
  refine (HL.out _).mono ?_
  rintro e w' ⟨rfl, rfl⟩
  go_wp2
  go_ret
  exact ⟨rfl, rfl⟩
def sub13 : ByteArray := ⟨#[33, 36, 38, 39, 40, 41, 42, 43, 44, 59, 61, 58, 64]⟩
def orTo (c : Int) (k : Nat) : Bool := (sub13.data.toList.take k).any fun b => decide ((b.toNat : Int) = c)
theorem orTo_succ {c : Int} {k : Nat} (hk : k < 13) : orTo c (k + 1) = (orTo c k || decide (bt sub13 k = c)) := by
 unfold orTo
 have h : sub13.data.toList[k]? = some (sub13.data.toList.getD k 0) := by
  rw [List.getD_eq_getElem?_getD, List.getElem?_eq_getElem (show k < sub13.data.toList.length from hk)]
  rfl
 rw [take_snoc h, List.any_append]
 congr 1
 simp [bt]
theorem signP_ref : ∀ n : Nat, n < 256 → signP n = (unres n || orTo n 13) := by decide +kernel
theorem signP_or {c : Int} (h0 : 0 ≤ c) (h1 : c < 256) : signP c = (unres c || orTo c 13) := by
 obtain ⟨n, rfl⟩ := Int.eq_ofNat_of_zero_le h0
 exact signP_ref n (by omega)
def sigR (s : ByteArray) (i : Nat) : Int × Bool :=
 if bt s i = 37 then
  (if s.size ≤ i + 1 then (1, true) else if isHexB (bt s (i + 1)) = true then (if s.size ≤ i + 2 then (2, true) else if isHexB (bt s (i + 2)) = true then (3, false) else (-2, false)) else (-1, false))
 else if signP (bt s i) = true then (1, false) else (0, false)
def sigVal (r : Int × Bool) : Value := .tuple #[.int .i64 r.1, .bool r.2]
set_option maxRecDepth 20000 in
set_option maxHeartbeats 4000000 in
theorem rSignAt_any (s : ByteArray) (i : Nat) (w : World) (hs : s.size ≤ 4194304) (hi : i < s.size) :
  Calls Tryz.prog 120 #[.string s, .int .i64 i] w fun e w' => e = .returned (sigVal (sigR s i)) ∧ w = w' := by
 have hb := @bt_eq s i hi
 by_cases h37 : bt s i = 37
 ·have hq : (bt s i != 37) = false := by rw [h37]; rfl
  have HS := Lib.hid (show sigR s i = (if s.size ≤ i + 1 then (1, true) else if isHexB (bt s (i + 1)) = true then (if s.size ≤ i + 2 then (2, true) else if isHexB (bt s (i + 2)) = true then (3, false) else (-2, false)) else (-1, false)) from if_pos h37)
  clear h37
  go_enter Tryz.func120, Tryz.ntmps120
  go_wp2
  go_loop [9] (fun v => ∃ k : Nat, 1 ≤ k ∧ k ≤ 3 ∧ v = .int .i64 (k : Int) ∧ Hid (2 ≤ k → ¬ s.size ≤ i + 1 ∧ isHexB (bt s (i + 1)) = true) ∧ Hid (3 ≤ k → ¬ s.size ≤ i + 2 ∧ isHexB (bt s (i + 2)) = true)) (fun d => 3 - (RowKit.intOf d).toNat)
  case atStart => exact ⟨1, by omega, by omega, rfl, Lib.hid (fun h => by omega), Lib.hid (fun h => by omega)⟩
  case round =>
   obtain ⟨k, hk1, hk3, rfl, A1, A2⟩ := hrel
   by_cases hk2 : k < 3
   ·have hk2i : (k : Int) ≤ 2 := by omega
    by_cases hlt : i + k < s.size
    ·have hli : ¬ (s.size : Int) ≤ (i : Int) + (k : Int) := by omega
     have hti : ((i : Int) + (k : Int)).toNat = i + k := by omega
     have hbk := @bt_eq s (i + k) hlt
     have HX := Lib.hid (fun w => rHex_any (bt s (i + k)) w)
     cases hx : isHexB (bt s (i + k))
     ·rw [hx] at HX
      have HR : Hid (sigR s i = (-(k : Int), false)) := by
       apply Lib.hid
       rw [HS.out]
       by_cases e1 : k = 1
       ·subst e1
        rw [if_neg (by omega), if_neg (by rw [hx]; simp)]
        rfl
       ·obtain rfl : k = 2 := by omega
        obtain ⟨p1, p2⟩ := A1.out (by omega)
        rw [if_neg p1, if_pos p2, if_neg (by omega), if_neg (by rw [hx]; simp)]
        rfl
      clear hx A1 A2 HS
      go_wp2_with fail
      refine (HX.out _).mono ?_
      rintro e w1 ⟨rfl, rfl⟩
      go_wp2
      go_ret2
      rw [HR.out]
      exact ⟨rfl, rfl⟩
     ·have B1 : Hid (2 ≤ k + 1 → ¬ s.size ≤ i + 1 ∧ isHexB (bt s (i + 1)) = true) := Lib.hid (fun _ => by
       by_cases e1 : k = 1
       ·subst e1; exact ⟨by omega, hx⟩
       ·exact A1.out (by omega))
      have B2 : Hid (3 ≤ k + 1 → ¬ s.size ≤ i + 2 ∧ isHexB (bt s (i + 2)) = true) := Lib.hid (fun h => by
       obtain rfl : k = 2 := by omega
       exact ⟨by omega, hx⟩)
      rw [hx] at HX
      clear hx A1 A2 HS
      go_wp2_with fail
      refine (HX.out _).mono ?_
      rintro e w1 ⟨rfl, rfl⟩
      go_wp2
      go_round
      case rel => exact ⟨k + 1, by omega, by omega, by go_num, B1, B2⟩
      case measure => simp [RowKit.intOf]; omega
    ·have hli : (s.size : Int) ≤ (i : Int) + (k : Int) := by omega
     have HR : Hid (sigR s i = ((k : Int), true)) := by
      apply Lib.hid
      rw [HS.out]
      by_cases e1 : k = 1
      ·subst e1
       rw [if_pos (by omega)]
       rfl
      ·obtain rfl : k = 2 := by omega
       obtain ⟨p1, p2⟩ := A1.out (by omega)
       rw [if_neg p1, if_pos p2, if_pos (by omega)]
       rfl
     clear A1 A2 HS
     go_wp2
     go_ret2
     rw [HR.out]
     exact ⟨rfl, rfl⟩
   ·have hk2i : ¬ (k : Int) ≤ 2 := by omega
    have HR : Hid (sigR s i = (3, false)) := by
     apply Lib.hid
     obtain ⟨p1, p2⟩ := A1.out (by omega)
     obtain ⟨p3, p4⟩ := A2.out (by omega)
     rw [HS.out, if_neg p1, if_pos p2, if_neg p3, if_pos p4]
    clear A1 A2 HS
    go_wp2
    go_ret2
    rw [HR.out]
    exact ⟨rfl, rfl⟩
 ·have hq : (bt s i != 37) = true := by simpa using h37
  have HS := Lib.hid (show sigR s i = (if signP (bt s i) = true then (1, false) else (0, false)) from if_neg h37)
  have HO := Lib.hid (signP_or (bt_nonneg s i) (bt_lt s i))
  have HU := Lib.hid (fun w => rUnres_any (bt s i) w)
  clear h37
  generalize bt s i = c at *
  go_enter Tryz.func120, Tryz.ntmps120
  go_wp2_with fail
  refine (HU.out _).mono ?_
  rintro e w1 ⟨rfl, rfl⟩
  go_wp2
  go_loop [7, 8] (fun ok v => ∃ k : Nat, k ≤ 13 ∧ v = .int .i64 (k : Int) ∧ ok = .bool (unres c || orTo c k)) (fun _ d => 13 - (RowKit.intOf d).toNat)
  case atStart => exact ⟨0, by omega, rfl, by rw [show orTo c 0 = false from rfl, Bool.or_false]⟩
  case round =>
   obtain ⟨k, hk, rfl, rfl⟩ := hrel
   by_cases hk2 : k < 13
   ·have hk2i : (k : Int) < 13 := by omega
    have HN := Lib.hid (orTo_succ (c := c) hk2)
    have hbk := @bt_eq sub13 k hk2
    unfold sub13 at hbk HN
    cases hok : (unres c || orTo c k)
    ·by_cases hc : bt ⟨#[33, 36, 38, 39, 40, 41, 42, 43, 44, 59, 61, 58, 64]⟩ k = c
     ·have hcq : (c == bt ⟨#[33, 36, 38, 39, 40, 41, 42, 43, 44, 59, 61, 58, 64]⟩ k) = true := by rw [hc]; simp
      have HH : Hid (true = (unres c || orTo c (k + 1))) := Lib.hid (by rw [HN.out, decide_eq_true hc]; simp)
      clear hok hc HO HS HN HU
      go_wp2
      go_round
      case rel => exact ⟨k + 1, by omega, by go_num, by rw [← HH.out]⟩
      case measure => simp [RowKit.intOf]; omega
     ·have hcq : (c == bt ⟨#[33, 36, 38, 39, 40, 41, 42, 43, 44, 59, 61, 58, 64]⟩ k) = false := by simpa using (fun h => hc h.symm)
      have HH : Hid (false = (unres c || orTo c (k + 1))) := Lib.hid (by
       rw [HN.out, decide_eq_false hc, Bool.or_false]
       exact hok.symm)
      clear hok hc HO HS HN HU
      go_wp2
      go_round
      case rel => exact ⟨k + 1, by omega, by go_num, by rw [← HH.out]⟩
      case measure => simp [RowKit.intOf]; omega
    ·have HH : Hid (true = (unres c || orTo c (k + 1))) := Lib.hid (by rw [HN.out, ← Bool.or_assoc, hok]; rfl)
     clear hok HO HS HN HU
     go_wp2
     go_round
     case rel => exact ⟨k + 1, by omega, by go_num, by rw [← HH.out]⟩
     case measure => simp [RowKit.intOf]; omega
   ·obtain rfl : k = 13 := by omega
    have HZ := HO.out
    generalize (unres c || orTo c 13) = ok at *
    cases ok
    ·have HR := Lib.hid (HS.out.trans (if_neg (by rw [HZ]; simp)))
     clear HO HS HZ
     go_wp2
     go_ret2
     rw [HR.out]
     exact ⟨rfl, rfl⟩
    ·have HR := Lib.hid (HS.out.trans (if_pos (by rw [HZ])))
     clear HO HS HZ
     go_wp2
     go_ret2
     rw [HR.out]
     exact ⟨rfl, rfl⟩
end Go.Proofs.YtiohmnhbmmhnhaaGreatDoor
namespace Go.Proofs.YtiohmnhbmmhnhaaGreatDoor
open Go.RowKit Go.Shelf Go.Lib
def namesOf (l : List Pc) : List ByteArray := (l.filter fun p => !decide (p.1 = 0)).map (·.2)
theorem names_zero (l : List Pc) {p : Pc} (h : p.1 = 0) : namesOf (l ++ [p]) = namesOf l := by
 unfold namesOf
 rw [List.filter_append, List.filter_cons_of_neg (by rw [decide_eq_true h]; simp)]
 simp
theorem names_one (l : List Pc) {p : Pc} (h : ¬ p.1 = 0) : namesOf (l ++ [p]) = namesOf l ++ [p.2] := by
 unfold namesOf
 rw [List.filter_append, List.filter_cons_of_pos (by rw [decide_eq_false h]; rfl)]
 simp
theorem twice_names {l : List Pc} {p : Pc} (h : ¬ p.1 = 0) : twice l p = (namesOf l).any fun x => decide (x = p.2) := by
 rw [twice_any h]
 unfold namesOf sameName
 induction l with
 | nil => rfl
 | cons q l ih =>
  rw [List.any_cons, ih]
  by_cases hq : q.1 = 0
  ·rw [List.filter_cons_of_neg (by rw [decide_eq_true hq]; simp), decide_eq_true hq]
   rfl
  ·rw [List.filter_cons_of_pos (by rw [decide_eq_false hq]; rfl), decide_eq_false hq]
   simp
theorem readF_place {s : ByteArray} {l : List Pc} {a : Nat} (ha : a < s.size) (h : (readF s l a).2.2 = false) : (endAt s (a + 1)).1 ≤ (readF s l a).2.1 := by
 cases hb : (wrongAt s (a + 1) || twice l (pcAt s (a + 1)))
 ·rw [readF_on ha hb] at h ⊢
  have := readF_spec s _ _ _ (Nat.le_refl _) h
  omega
 ·rw [readF_bad ha hb]
  exact Nat.le_refl _
section
variable {s : ByteArray} {l : List Pc} {a j : Nat}
theorem chk_long (hT : readF s l a = readP s) (hn : 1024 < s.size) (h : (readF s l a).2.2 = false → 1024 ≤ (readF s l a).2.1) : checkP s = (1024, 130) := by
 rw [hT] at h
 exact chk_big hn h
theorem chk_beyond (hT : readF s l a = readP s) (ha : a < s.size) (h1 : 1024 ≤ a) : checkP s = (1024, 130) :=
 chk_long hT (by omega) fun h => by have := readF_spec s _ _ _ (Nat.le_refl _) h; omega
theorem chk_end (hT : readF s l a = readP s) (ha : a < s.size) (hn : 1024 < s.size) (h1 : 1024 ≤ (endAt s (a + 1)).1) : checkP s = (1024, 130) :=
 chk_long hT hn fun h => by have := readF_place ha h; omega
theorem chk_wrong (hT : readF s l a = readP s) (ha : a < s.size) (h : (wrongAt s (a + 1) || twice l (pcAt s (a + 1))) = true) (he : (endAt s (a + 1)).1 = j) : checkP s = (((min j 1024 : Nat) : Int), 130) := by
 have h1 := endAt_spec s (a + 1) (by omega)
 unfold checkP splitP
 rw [← hT, readF_bad ha h, he]
 exact chk_bad (by omega) _
theorem chk_none (h : ¬ (0 < s.size ∧ bt s 0 = 47)) : checkP s = (0, 130) := by
 unfold checkP splitP
 rw [readP_no h]
 exact chk_bad (Nat.zero_le _) _
theorem chk_fine (hT : readF s l s.size = readP s) (h : s.size ≤ 1024) : checkP s = (0, 0) := by
 unfold checkP splitP
 rw [← hT, readF_end (Nat.le_refl _)]
 exact chk_good h _ _
theorem chk_much (hT : readF s l s.size = readP s) (h : 1024 < s.size) : checkP s = (1024, 130) :=
 chk_long hT h fun x => by rw [readF_end (Nat.le_refl _)] at x; cases x
end
def GivesChk (s : ByteArray) (w : World) (e : Ending) (w' : World) : Prop :=
 ∃ p er : Int, e = .returned (.tuple #[.int .i64 p, .int .i64 er]) ∧ (if 1024 < p then 1024 else p, er) = checkP s ∧ Below w.heap.size w w'
theorem gives_chk {s : ByteArray} {w w' : World} {p er : Int} (h : (if 1024 < p then 1024 else p, er) = checkP s) (hb : Below w.heap.size w w') : GivesChk s w (.returned (.tuple #[.int .i64 p, .int .i64 er])) w' := ⟨p, er, rfl, h, hb⟩
theorem min_if (j : Nat) : (if 1024 < (j : Int) then 1024 else (j : Int)) = ((min j 1024 : Nat) : Int) := by
 split <;> omega
theorem chk_of {s : ByteArray} {j : Nat} (h : checkP s = (((min j 1024 : Nat) : Int), 130)) : (if 1024 < (j : Int) then 1024 else (j : Int), (130 : Int)) = checkP s := by rw [h, min_if]
theorem chk_of_1024 {s : ByteArray} (h : checkP s = (1024, 130)) : (if 1024 < (1024 : Int) then 1024 else (1024 : Int), (130 : Int)) = checkP s := by rw [h]; rfl
def NameTo (s : ByteArray) (i j : Nat) : Prop := (∀ k, i ≤ k → k < j → nameB (bt s k) = true) ∧ (i < j → letB (bt s i) = true)
section
variable {s : ByteArray} {i j : Nat}
theorem NameTo.zero : NameTo s i i := ⟨fun k h1 h2 => by omega, fun h => by omega⟩
theorem letB_name {c : Int} (h : letB c = true) : nameB c = true := by unfold nameB; rw [h]; rfl
theorem NameTo.succ (h : NameTo s i j) (hij : i ≤ j) (hb : (if j = i then letB (bt s j) else nameB (bt s j)) = true) : NameTo s i (j + 1) := by
 by_cases e : j = i
 ·subst e
  rw [if_pos rfl] at hb
  exact ⟨fun k h1 h2 => by (obtain rfl : k = j := (by omega)); exact letB_name hb, fun _ => hb⟩
 ·rw [if_neg e] at hb
  exact ⟨fun k h1 h2 => by
   by_cases ek : k = j
   ·subst ek; exact hb
   ·exact h.1 k h1 (by omega), fun _ => h.2 (by omega)⟩
theorem NameTo.le (h : NameTo s i j) (hij : i ≤ j) (hj : j ≤ s.size) : j ≤ (nameE s i).1 := by
 by_cases e : i < j
 ·rw [nameE_yes ⟨by omega, h.2 e⟩]
  have hs := nameEnd_spec s i (by omega)
  by_cases hx : nameEnd s i < j
  ·have h1 := h.1 _ hs.1 hx
   rw [hs.2.2.2 (by omega)] at h1
   cases h1
  ·exact Nat.le_of_not_lt hx
 ·have := nameE_spec s i (by omega)
  omega
theorem NameTo.none (h : ¬ (i < s.size ∧ letB (bt s i) = true)) : nameE s i = (i, false) := nameE_no h
theorem NameTo.stop (h : NameTo s i j) (hij : i < j) (hj : j ≤ s.size) (hb : j < s.size → nameB (bt s j) = false) : nameE s i = (j, true) := by
 rw [nameE_yes ⟨by omega, h.2 hij⟩, nameEnd_eq (Nat.le_of_lt hij) hj h.1 hb]
end
theorem slash_name : nameB 47 = false := by decide
theorem endAt_name {s : ByteArray} {i : Nat} (h : ¬ kindAt s i = 0) : endAt s i = nameE s (i + 1) := by unfold endAt; rw [if_neg h]
theorem endAt_stat {s : ByteArray} {i : Nat} (h : kindAt s i = 0) : endAt s i = statE s i := by unfold endAt; rw [if_pos h]
theorem pcAt_name {s : ByteArray} {i e : Nat} {g : Bool} (h : ¬ kindAt s i = 0) (he : endAt s i = (e, g)) : (pcAt s i).2 = s.extract (i + 1) e := by
 unfold pcAt fromAt
 rw [if_neg h, he]
theorem sigR_spec {s : ByteArray} {i : Nat} (hi : i < s.size) (h47 : ¬ bt s i = 47) :
  (∃ k : Nat, 0 < k ∧ sigR s i = ((k : Int), false) ∧ i + k ≤ s.size ∧ statE s i = statE s (i + k)) ∨ (∃ k : Int, sigR s i = (k, true) ∧ statE s i = (s.size, false)) ∨
  (∃ k : Nat, 0 < k ∧ sigR s i = (-(k : Int), false) ∧ statE s i = (i + k, false)) ∨ (sigR s i = (0, false) ∧ statE s i = (i, false)) := by
 unfold sigR
 by_cases h37 : bt s i = 37
 ·rw [if_pos h37]
  by_cases h1 : s.size ≤ i + 1
  ·rw [if_pos h1]
   exact .inr (.inl ⟨1, rfl, by rw [statE_one hi h37 (by omega), show i + 1 = s.size by omega]⟩)
  ·rw [if_neg h1]
   by_cases h2 : isHexB (bt s (i + 1)) = true
   ·rw [if_pos h2]
    by_cases h3 : s.size ≤ i + 2
    ·rw [if_pos h3]
     exact .inr (.inl ⟨2, rfl, by rw [statE_two h37 ⟨by omega, h2⟩ (by omega), show i + 2 = s.size by omega]⟩)
    ·rw [if_neg h3]
     by_cases h4 : isHexB (bt s (i + 2)) = true
     ·rw [if_pos h4]
      exact .inl ⟨3, by omega, rfl, by omega, statE_tri h37 ⟨by omega, h2⟩ ⟨by omega, h4⟩⟩
     ·rw [if_neg h4]
      exact .inr (.inr (.inl ⟨2, by omega, rfl, statE_two h37 ⟨by omega, h2⟩ (fun h => h4 h.2)⟩))
   ·rw [if_neg h2]
    exact .inr (.inr (.inl ⟨1, by omega, rfl, statE_one hi h37 (fun h => h2 h.2)⟩))
 ·rw [if_neg h37]
  by_cases h1 : signP (bt s i) = true
  ·rw [if_pos h1]
   exact .inl ⟨1, by omega, rfl, by omega, statE_on hi h47 h37 h1⟩
  ·rw [if_neg h1]
   exact .inr (.inr (.inr ⟨rfl, statE_no hi h47 h37 (by simpa using h1)⟩))
set_option maxRecDepth 20000 in
set_option maxHeartbeats 16000000 in
theorem rcheck_any (s : ByteArray) (w : World) (hs : s.size ≤ 4194304) :
  Calls Tryz.prog 85 #[.string s] w (GivesChk s w) := by
 obtain ⟨i0, hi0, hz0, hz1, hz2⟩ := info_parts info_string
 by_cases h0 : s.size = 0
 ·have he : s.toList.isEmpty = true := by rw [empty_eq]; exact decide_eq_true h0
  have HC := Lib.hid (chk_none (s := s) (by omega))
  clear h0
  go_enter Tryz.func85, Tryz.ntmps85
  go_wp2
  go_ret2
  exact gives_chk (by rw [HC.out]; rfl) ((Below.refl _ w).alloc (Nat.le_refl _) _)
 have he : s.toList.isEmpty = false := by rw [empty_eq]; exact decide_eq_false h0
 have hlt : 0 < s.size := by omega
 have hb := @bt_eq s 0 hlt
 by_cases h47 : bt s 0 = 47
 rotate_left
 ·have HC := Lib.hid (chk_none (s := s) (by omega))
  have hh : (bt s 0 != 47) = true := by simpa using h47
  clear h0 h47
  go_enter Tryz.func85, Tryz.ntmps85
  go_wp2
  go_ret2
  exact gives_chk (by rw [HC.out]; rfl) ((Below.refl _ w).alloc (Nat.le_refl _) _)
 have hh : (bt s 0 != 47) = false := by rw [h47]; rfl
 have HR := Lib.hid (readP_yes (s := s) ⟨hlt, h47⟩)
 clear h0 h47
 go_enter Tryz.func85, Tryz.ntmps85
 go_wp2
 clear hb
 go_loopw [4, 5] (fun v i wr => ∃ (l : List Pc) (a : Nat) (ns : List ByteArray), a < s.size ∧ i = .int .i64 ((a : Int) + 1) ∧ ns.length ≤ a ∧ Hid (ns = namesOf l) ∧ Hid (readF s l a = readP s) ∧ wr.ownsRow w.heap.size 9 1 v ns.length (ns.map .string) ∧ Below w.heap.size w wr) (fun _ i _ => s.size + 1 - (RowKit.intOf i).toNat)
 case atStart => exact ⟨[], 0, [], hlt, rfl, Nat.le_refl _, Lib.hid rfl, Lib.hid HR.out.symm, World.ownsRow_lit w #[] 0 (Nat.le_refl _) (by unfold maxLen; omega) rfl, (Below.refl _ w).alloc (Nat.le_refl _) _⟩
 case round =>
  clear HR
  obtain ⟨l, a, ns, ha, rfl, hnl, HNS, HT, hown, hbw⟩ := hrel
  obtain ⟨A, c, rfl⟩ := own_slice hown
  have t1 : ((a : Int) + 1).toNat = a + 1 := by omega
  by_cases hbm : a + 1 ≤ 1024
  rotate_left
  ·have hbmi : (1024 : Int) < (a : Int) + 1 := by omega
   have HC := Lib.hid (chk_beyond HT.out ha (by omega))
   go_wp2
   go_ret2
   exact gives_chk (chk_of_1024 HC.out) hbw
  have hbmi : ¬ (1024 : Int) < (a : Int) + 1 := by omega
  rcases kind_cases s (a + 1) with ⟨hK, n1, n2⟩ | ⟨hK, n0, n1⟩ | ⟨hK, n0, n1⟩
  ·by_cases hin : a + 1 < s.size
   ·have hbi := @bt_eq s (a + 1) hin
    have hli : (a : Int) + 1 < (s.size : Int) := by omega
    have q1 : (bt s (a + 1) == 58) = false := by simpa using (fun h => n1 ⟨hin, h⟩)
    have q2 : (bt s (a + 1) == 42) = false := by simpa using (fun h => n2 ⟨hin, h⟩)
    clear n1 n2
    go_wp2
    go_loop [5] (fun v => ∃ i : Nat, a + 1 ≤ i ∧ i ≤ s.size ∧ v = .int .i64 i ∧ Hid (statE s i = statE s (a + 1))) (fun v => s.size - (RowKit.intOf v).toNat)
    case atStart => exact ⟨a + 1, Nat.le_refl _, by omega, by go_num, Lib.hid rfl⟩
    case round =>
     obtain ⟨i, hai, hi, rfl, HST⟩ := hrel
     have hen0 := endAt_stat hK
     rw [← HST.out] at hen0
     by_cases his : i < s.size
     ·have hbi2 := @bt_eq s i his
      by_cases h47 : bt s i = 47
      ·have hq : (bt s i != 47) = false := by rw [h47]; rfl
       rw [statE_end (.inr h47)] at hen0
       have HN := Lib.hid ((readF_on ha (by rw [wrong_slash hen0 his (by rw [hK]; decide) h47, twice_zero (show (pcAt s (a + 1)).1 = 0 from hK)]; rfl)).symm.trans HT.out)
       rw [hen0] at HN
       have HNS2 := Lib.hid (show ns = namesOf (l ++ [pcAt s (a + 1)]) by rw [names_zero l (show (pcAt s (a + 1)).1 = 0 from hK), ← HNS.out])
       clear hen0 h47 hK HST HT HNS
       have HNS := HNS2
       clear HNS2
       have hii : (i : Int) < (s.size : Int) := by omega
       by_cases hbig : i < 1024
       ·have hge : ¬ (1024 : Int) ≤ (i : Int) := by omega
        have hqe : ((i : Int) == (s.size : Int)) = false := beq_eq_false_iff_ne.2 (by omega)
        have HO := Lib.hid (hown)
        have HBW := Lib.hid (hbw)
        go_wp2
        go_roundw
        case rel => exact ⟨_, i, _, by omega, rfl, by omega, Lib.hid HNS.out, Lib.hid HN.out, HO.out, HBW.out⟩
        case measure => simp [RowKit.intOf]; omega
       ·have hge : (1024 : Int) ≤ (i : Int) := by omega
        have HC := Lib.hid (chk_beyond HN.out (by omega) (by omega))
        clear HN HNS
        go_wp2
        go_ret2
        exact gives_chk (chk_of_1024 HC.out) hbw
      ·have hq : (bt s i != 47) = true := by simpa using h47
       by_cases him : i < 1024
       ·have himi : ¬ (1024 : Int) ≤ (i : Int) := by omega
        have HSG := Lib.hid (fun w => rSignAt_any s i w hs his)
        rcases sigR_spec his h47 with ⟨k, hk0, hsg, hks, hst⟩ | ⟨k, hsg, hst⟩ | ⟨k, hk0, hsg, hst⟩ | ⟨hsg, hst⟩
        ·rw [hsg] at HSG
         unfold sigVal at HSG
         dsimp only at HSG
         have HST2 := Lib.hid (hst.symm.trans HST.out)
         have hk1 : ¬ (k : Int) < 0 := by omega
         have hk2 : ((k : Int) == 0) = false := beq_eq_false_iff_ne.2 (by omega)
         clear hsg hst HST h47 hen0
         go_wp2_with fail
         refine (HSG.out _).mono ?_
         rintro e' w1 ⟨rfl, rfl⟩
         go_wp2
         go_round
         case rel => exact ⟨i + k, by omega, hks, by go_num, HST2⟩
         case measure => simp [RowKit.intOf]; omega
        ·rw [hsg] at HSG
         unfold sigVal at HSG
         dsimp only at HSG
         rw [hst] at hen0
         have HC := Lib.hid (chk_wrong (j := s.size) HT.out ha (by rw [wrong_not hen0]; rfl) (by rw [hen0]))
         clear hsg hst HST h47 hen0
         go_wp2_with fail
         refine (HSG.out _).mono ?_
         rintro e' w1 ⟨rfl, rfl⟩
         go_wp2
         go_ret2
         exact gives_chk (chk_of HC.out) hbw
        ·rw [hsg] at HSG
         unfold sigVal at HSG
         dsimp only at HSG
         rw [hst] at hen0
         have HC := Lib.hid (chk_wrong (j := i + k) HT.out ha (by rw [wrong_not hen0]; rfl) (by rw [hen0]))
         have hk1 : -(k : Int) < 0 := by omega
         have hks : i + k ≤ s.size := by have := statE_spec s _ i (Nat.le_refl _) hi; rw [hst] at this; exact this.2.1
         have hk2 : ((i + k : Nat) : Int) = (i : Int) + (k : Int) := by omega
         clear hsg hst HST h47 hen0
         go_wp2_with fail
         refine (HSG.out _).mono ?_
         rintro e' w1 ⟨rfl, rfl⟩
         go_wp2
         go_ret2
         exact gives_chk (chk_of HC.out) hbw
        ·rw [hsg] at HSG
         unfold sigVal at HSG
         dsimp only at HSG
         rw [hst] at hen0
         have HC := Lib.hid (chk_wrong (j := i) HT.out ha (by rw [wrong_not hen0]; rfl) (by rw [hen0]))
         clear hsg hst HST h47 hen0
         go_wp2_with fail
         refine (HSG.out _).mono ?_
         rintro e' w1 ⟨rfl, rfl⟩
         go_wp2
         go_ret2
         exact gives_chk (chk_of HC.out) hbw
       ·have himi : (1024 : Int) ≤ (i : Int) := by omega
        have HC := Lib.hid (chk_end HT.out ha (by omega) (by rw [hen0]; have := statE_spec s _ i (Nat.le_refl _) hi; omega))
        clear h47 hen0
        go_wp2
        go_ret2
        exact gives_chk (chk_of_1024 HC.out) hbw
     ·obtain rfl : i = s.size := by omega
      rw [statE_end (.inl (Nat.le_refl _))] at hen0
      have HN := Lib.hid ((readF_on ha (by rw [wrong_end hen0 (Nat.le_refl _), twice_zero (show (pcAt s (a + 1)).1 = 0 from hK)]; rfl)).symm.trans HT.out)
      rw [hen0] at HN
      have HNS2 := Lib.hid (show ns = namesOf (l ++ [pcAt s (a + 1)]) by rw [names_zero l (show (pcAt s (a + 1)).1 = 0 from hK), ← HNS.out])
      clear hen0 hK HST HT HNS
      have HNS := HNS2
      clear HNS2
      by_cases hbig : 1024 < s.size
      ·have hbi : (1024 : Int) < (s.size : Int) := by omega
       have hge : (1024 : Int) ≤ (s.size : Int) := by omega
       have HC := Lib.hid (chk_much HN.out hbig)
       clear HN HNS
       go_wp2
       go_ret2
       exact gives_chk (chk_of_1024 HC.out) hbw
      ·have hbi : ¬ (1024 : Int) < (s.size : Int) := by omega
       have HC := Lib.hid (chk_fine HN.out (by omega))
       clear HN HNS
       by_cases hge2 : s.size = 1024
       ·have hge : (1024 : Int) ≤ (s.size : Int) := by omega
        go_wp2
        go_ret2
        exact gives_chk (by rw [HC.out]; rfl) hbw
       ·have hge : ¬ (1024 : Int) ≤ (s.size : Int) := by omega
        go_wp2
        go_ret2
        exact gives_chk (by rw [HC.out]; rfl) hbw
   ·have hli : ¬ (a : Int) + 1 < (s.size : Int) := by omega
    clear n1 n2
    go_wp2
    go_loop [5] (fun v => ∃ i : Nat, a + 1 ≤ i ∧ i ≤ s.size ∧ v = .int .i64 i ∧ Hid (statE s i = statE s (a + 1))) (fun v => s.size - (RowKit.intOf v).toNat)
    case atStart => exact ⟨a + 1, Nat.le_refl _, by omega, by go_num, Lib.hid rfl⟩
    case round =>
     obtain ⟨i, hai, hi, rfl, HST⟩ := hrel
     have hen0 := endAt_stat hK
     rw [← HST.out] at hen0
     by_cases his : i < s.size
     ·exfalso; omega
     ·obtain rfl : i = s.size := by omega
      rw [statE_end (.inl (Nat.le_refl _))] at hen0
      have HN := Lib.hid ((readF_on ha (by rw [wrong_end hen0 (Nat.le_refl _), twice_zero (show (pcAt s (a + 1)).1 = 0 from hK)]; rfl)).symm.trans HT.out)
      rw [hen0] at HN
      have HNS2 := Lib.hid (show ns = namesOf (l ++ [pcAt s (a + 1)]) by rw [names_zero l (show (pcAt s (a + 1)).1 = 0 from hK), ← HNS.out])
      clear hen0 hK HST HT HNS
      have HNS := HNS2
      clear HNS2
      by_cases hbig : 1024 < s.size
      ·have hbi : (1024 : Int) < (s.size : Int) := by omega
       have hge : (1024 : Int) ≤ (s.size : Int) := by omega
       have HC := Lib.hid (chk_much HN.out hbig)
       clear HN HNS
       go_wp2
       go_ret2
       exact gives_chk (chk_of_1024 HC.out) hbw
      ·have hbi : ¬ (1024 : Int) < (s.size : Int) := by omega
       have HC := Lib.hid (chk_fine HN.out (by omega))
       clear HN HNS
       by_cases hge2 : s.size = 1024
       ·have hge : (1024 : Int) ≤ (s.size : Int) := by omega
        go_wp2
        go_ret2
        exact gives_chk (by rw [HC.out]; rfl) hbw
       ·have hge : ¬ (1024 : Int) ≤ (s.size : Int) := by omega
        go_wp2
        go_ret2
        exact gives_chk (by rw [HC.out]; rfl) hbw
  ·have hK1 := hK
   clear hK1
   have hbi := @bt_eq s (a + 1) n0
   have hli : (a : Int) + 1 < (s.size : Int) := by omega
   have q1 : (bt s (a + 1) == 58) = true := by rw [n1]; rfl
   have q2 : (bt s (a + 1) == 42) = false := by rw [n1]; rfl
   clear n1
   go_wp2
   go_loop [7] (fun v => ∃ j : Nat, a + 1 + 1 ≤ j ∧ j ≤ s.size ∧ v = .int .i64 j ∧ Hid (NameTo s (a + 1 + 1) j)) (fun v => s.size - (RowKit.intOf v).toNat)
   case atStart => exact ⟨a + 1 + 1, Nat.le_refl _, by omega, by go_num, Lib.hid NameTo.zero⟩
   case round =>
    obtain ⟨j, haj, hj, rfl, HNT⟩ := hrel
    by_cases hjs : j < s.size
    ·have hbj := @bt_eq s j hjs
     by_cases h47 : bt s j = 47
     ·have hq : (bt s j != 47) = false := by rw [h47]; rfl
      by_cases e2 : j = a + 1 + 1
      ·have hje : ((j : Int) == (a : Int) + 1 + 1) = true := beq_iff_eq.2 (by omega)
       have hen : endAt s (a + 1) = (a + 1 + 1, false) := by rw [endAt_name (by rw [hK]; decide)]; exact nameE_no (fun h => by rw [← e2, h47] at h; exact absurd h.2 (by decide))
       have HC := Lib.hid (chk_wrong (j := j) HT.out ha (by rw [wrong_not hen]; rfl) (by rw [hen]; exact e2.symm))
       clear hen e2
       go_wp2
       go_ret2
       exact gives_chk (chk_of HC.out) hbw
      ·have hje : ((j : Int) == (a : Int) + 1 + 1) = false := beq_eq_false_iff_ne.2 (by omega)
       have hen : endAt s (a + 1) = (j, true) := by rw [endAt_name (by rw [hK]; decide)]; exact HNT.out.stop (by omega) (by omega) (fun h => by rw [h47]; exact slash_name)
       have hpn := pcAt_name (by rw [hK]; decide) hen
       have hpk : ¬ (pcAt s (a + 1)).1 = 0 := by show ¬ kindAt s (a + 1) = 0; rw [hK]; decide
       have htw := twice_names (l := l) hpk
       rw [hpn, ← HNS.out] at htw
       have HEN := Lib.hid hen
       have HPN := Lib.hid hpn
       have HPK := Lib.hid hpk
       have HTW := Lib.hid htw
       have HK := Lib.hid hK
       have hle2 : (a : Int) + 1 + 1 ≤ (j : Int) := by omega
       have t2 : ((a : Int) + 1 + 1).toNat = a + 1 + 1 := by omega
       have hrow := own_row hown
       have HROW := Lib.hid hrow
       have H47 := Lib.hid h47
       clear h47
       clear hen hpn hpk htw hK hrow e2 HNT
       obtain ⟨nm, hnm⟩ : ∃ nm, s.extract (a + 1 + 1) j = nm := ⟨_, rfl⟩
       rw [hnm] at HTW HPN
       obtain ⟨xo, rfl⟩ : ∃ xo : World, xo = wr := ⟨_, rfl⟩
       go_wp2
       go_loopw [8] (fun v wr => ∃ k q : Nat, k ≤ ns.length ∧ v = .int .i64 k ∧ wr = xo.drewN q ∧ Hid ((ns.take k).any (fun x => decide (x = nm)) = false)) (fun v _ => ns.length - (RowKit.intOf v).toNat)
       case atStart => exact ⟨0, 0, by omega, rfl, rfl, Lib.hid rfl⟩
       case round =>
        obtain ⟨k, q, hk, rfl, rfl, HKN⟩ := hrel
        by_cases hkl : k < ns.length
        ·obtain ⟨x, hx⟩ := some_of_lt hkl
         obtain ⟨b, off, rfl, hb, h0⟩ := HROW.out.str hx
         have hki : (k : Int) < (ns.length : Int) := by omega
         by_cases hxe : x = nm
         ·have hxx : (x.toList == nm.toList) = true := (eq_str x nm).trans (decide_eq_true hxe)
          have HTT := Lib.hid (show (ns.any fun x => decide (x = nm)) = true from List.any_eq_true.2 ⟨x, List.mem_of_getElem? hx, decide_eq_true hxe⟩)
          have HC := Lib.hid (chk_wrong (j := j) HT.out ha (by rw [HTW.out, HTT.out]; simp) (by rw [HEN.out]))
          clear hx hxe HTT
          have hbq := below_drewN hbw q
          have hjl : (j : Int) < (s.size : Int) := by omega
          go_wp2_with fail
          go_quiet (fail)
          go_wp2
          go_ret2
          exact gives_chk (chk_of HC.out) (by first | exact below_drewN hbq _ | exact below_drewN hbw _)
         ·have hxx : (x.toList == nm.toList) = false := (eq_str x nm).trans (decide_eq_false hxe)
          have HKS := Lib.hid (show (ns.take (k + 1)).any (fun x => decide (x = nm)) = false by rw [take_snoc hx, List.any_append, HKN.out]; simp [hxe])
          clear hx hxe HKN
          go_wp2_with fail
          go_quiet (fail)
          go_wp2_with fail
          go_quiet (fail)
          go_wp2
          go_roundw
          case rel => exact ⟨k + 1, _, by omega, by go_num, rfl, HKS⟩
          case measure => simp [RowKit.intOf]; omega
        ·obtain rfl : k = ns.length := by omega
         have hnn := HKN.out
         rw [List.take_length] at hnn
         have HNN := Lib.hid hnn
         clear hnn HKN
         have hownq := own_below hown (below_drewN (Below.refl _ _) q)
         have hbq := below_drewN hbw q
         go_wp2_with (at_builtin; refine wpList_append_own _ rfl _ _ 33 rfl w.heap.size 9 i0 (.string ⟨#[]⟩) 1 16 Tryz.underlying33 hi0 hz0 hz1 hz2 rfl (by decide) _ _ _ rfl (hownq.alloc _) ⟨xo.heap.size, 0, none⟩ 1 1 [.string nm] rfl rfl (cell_one_new _ _ _) ?c1 ?c2 ?c3 ?c4 ?c5)
         case c1 => exact strs_oneCell [nm]
         case c2 => unfold maxLen; omega
         case c3 => omega
         case c4 => simp; have := hbw.size; omega
         case c5 =>
          intro v' w3 hown3 hg3 _
          have hb3 : Below w.heap.size w w3 := (hbq.alloc hbq.size _).grown hg3 (by simp; have := hbw.size; omega) (own_lt hownq)
          have ho3 : w3.ownsRow w.heap.size 9 1 v' (ns ++ [nm]).length ((ns ++ [nm]).map .string) := by rw [List.length_append, List.map_append]; exact hown3
          clear hown3 hg3 hownq hbq hown
          have hjl : (j : Int) < (s.size : Int) := by omega
          have HN := Lib.hid ((readF_on ha (by rw [wrong_slash HEN.out hjs (by rw [HK.out]; decide) H47.out, HTW.out, HNN.out]; rfl)).symm.trans HT.out)
          rw [HEN.out] at HN
          have HNS2 := Lib.hid (show ns ++ [nm] = namesOf (l ++ [pcAt s (a + 1)]) by rw [names_one l HPK.out, HPN.out, ← HNS.out])
          clear HTW HNN HEN HPN HPK HK HNS HT
          have HNS := HNS2
          clear HNS2
          have hii : (j : Int) < (s.size : Int) := by omega
          by_cases hbig : j < 1024
          ·have hge : ¬ (1024 : Int) ≤ (j : Int) := by omega
           have hqe : ((j : Int) == (s.size : Int)) = false := beq_eq_false_iff_ne.2 (by omega)
           have HO := Lib.hid (ho3)
           have HBW := Lib.hid (hb3)
           go_wp2
           go_roundw
           case rel => exact ⟨_, j, _, by omega, rfl, by rw [List.length_append]; simp; omega, Lib.hid HNS.out, Lib.hid HN.out, HO.out, HBW.out⟩
           case measure => simp [RowKit.intOf]; omega
          ·have hge : (1024 : Int) ≤ (j : Int) := by omega
           have HC := Lib.hid (chk_beyond HN.out (by omega) (by omega))
           clear HN HNS
           go_wp2
           go_ret2
           exact gives_chk (chk_of_1024 HC.out) hb3
     ·have hq : (bt s j != 47) = true := by simpa using h47
      by_cases hjm : j < 1024
      ·have hjmi : ¬ (1024 : Int) ≤ (j : Int) := by omega
       by_cases e2 : j = a + 1 + 1
       ·have hje : ((j : Int) == (a : Int) + 1 + 1) = true := beq_iff_eq.2 (by omega)
        have HB := Lib.hid (fun w => rNameByte_any (bt s j) true w)
        rw [if_pos rfl] at HB
        cases hb : letB (bt s j)
        ·rw [hb] at HB
         have hen : endAt s (a + 1) = (a + 1 + 1, false) := by rw [endAt_name (by rw [hK]; decide)]; exact nameE_no (fun h => by rw [← e2, hb] at h; cases h.2)
         have HC := Lib.hid (chk_wrong (j := j) HT.out ha (by rw [wrong_not hen]; rfl) (by rw [hen]; exact e2.symm))
         clear hen hb e2 h47 hK
         go_wp2_with fail
         refine (HB.out _).mono ?_
         rintro e' w1 ⟨rfl, rfl⟩
         go_wp2
         go_ret2
         exact gives_chk (chk_of HC.out) hbw
        ·rw [hb] at HB
         have HNS2 := Lib.hid (HNT.out.succ haj (by rw [if_pos e2]; exact hb))
         clear hb e2 h47 HNT
         go_wp2_with fail
         refine (HB.out _).mono ?_
         rintro e' w1 ⟨rfl, rfl⟩
         go_wp2
         go_round
         case rel => exact ⟨j + 1, by omega, by omega, by go_num, HNS2⟩
         case measure => simp [RowKit.intOf]; omega
       ·have hje : ((j : Int) == (a : Int) + 1 + 1) = false := beq_eq_false_iff_ne.2 (by omega)
        have HB := Lib.hid (fun w => rNameByte_any (bt s j) false w)
        rw [if_neg (by decide)] at HB
        cases hb : nameB (bt s j)
        ·rw [hb] at HB
         have hen : endAt s (a + 1) = (j, true) := by rw [endAt_name (by rw [hK]; decide)]; exact HNT.out.stop (by omega) (by omega) (fun _ => hb)
         have HC := Lib.hid (chk_wrong (j := j) HT.out ha (by rw [wrong_other hen hjs h47]; rfl) (by rw [hen]))
         clear hen hb e2 h47 hK
         go_wp2_with fail
         refine (HB.out _).mono ?_
         rintro e' w1 ⟨rfl, rfl⟩
         go_wp2
         go_ret2
         exact gives_chk (chk_of HC.out) hbw
        ·rw [hb] at HB
         have HNS2 := Lib.hid (HNT.out.succ haj (by rw [if_neg e2]; exact hb))
         clear hb e2 h47 HNT
         go_wp2_with fail
         refine (HB.out _).mono ?_
         rintro e' w1 ⟨rfl, rfl⟩
         go_wp2
         go_round
         case rel => exact ⟨j + 1, by omega, by omega, by go_num, HNS2⟩
         case measure => simp [RowKit.intOf]; omega
      ·have hjmi : (1024 : Int) ≤ (j : Int) := by omega
       have HC := Lib.hid (chk_end HT.out ha (by omega) (by rw [endAt_name (by rw [hK]; decide)]; have := HNT.out.le haj hj; omega))
       clear h47 hK
       go_wp2
       go_ret2
       exact gives_chk (chk_of_1024 HC.out) hbw
    ·obtain rfl : j = s.size := by omega
     by_cases e2 : s.size = a + 1 + 1
     ·have hje : ((s.size : Int) == (a : Int) + 1 + 1) = true := beq_iff_eq.2 (by omega)
      have hen : endAt s (a + 1) = (a + 1 + 1, false) := by rw [endAt_name (by rw [hK]; decide)]; exact nameE_no (by omega)
      have HC := Lib.hid (chk_wrong (j := s.size) HT.out ha (by rw [wrong_not hen]; rfl) (by rw [hen]; exact e2.symm))
      clear hen e2
      go_wp2
      go_ret2
      exact gives_chk (chk_of HC.out) hbw
     ·have hje : ((s.size : Int) == (a : Int) + 1 + 1) = false := beq_eq_false_iff_ne.2 (by omega)
      have hen : endAt s (a + 1) = (s.size, true) := by rw [endAt_name (by rw [hK]; decide)]; exact HNT.out.stop (by omega) (by omega) (fun h => by omega)
      have hpn := pcAt_name (by rw [hK]; decide) hen
      have hpk : ¬ (pcAt s (a + 1)).1 = 0 := by show ¬ kindAt s (a + 1) = 0; rw [hK]; decide
      have htw := twice_names (l := l) hpk
      rw [hpn, ← HNS.out] at htw
      have HEN := Lib.hid hen
      have HPN := Lib.hid hpn
      have HPK := Lib.hid hpk
      have HTW := Lib.hid htw
      have HK := Lib.hid hK
      have hle2 : (a : Int) + 1 + 1 ≤ (s.size : Int) := by omega
      have t2 : ((a : Int) + 1 + 1).toNat = a + 1 + 1 := by omega
      have hrow := own_row hown
      have HROW := Lib.hid hrow
      clear hen hpn hpk htw hK hrow e2 HNT
      obtain ⟨nm, hnm⟩ : ∃ nm, s.extract (a + 1 + 1) s.size = nm := ⟨_, rfl⟩
      rw [hnm] at HTW HPN
      obtain ⟨xo, rfl⟩ : ∃ xo : World, xo = wr := ⟨_, rfl⟩
      go_wp2
      go_loopw [8] (fun v wr => ∃ k q : Nat, k ≤ ns.length ∧ v = .int .i64 k ∧ wr = xo.drewN q ∧ Hid ((ns.take k).any (fun x => decide (x = nm)) = false)) (fun v _ => ns.length - (RowKit.intOf v).toNat)
      case atStart => exact ⟨0, 0, by omega, rfl, rfl, Lib.hid rfl⟩
      case round =>
       obtain ⟨k, q, hk, rfl, rfl, HKN⟩ := hrel
       by_cases hkl : k < ns.length
       ·obtain ⟨x, hx⟩ := some_of_lt hkl
        obtain ⟨b, off, rfl, hb, h0⟩ := HROW.out.str hx
        have hki : (k : Int) < (ns.length : Int) := by omega
        by_cases hxe : x = nm
        ·have hxx : (x.toList == nm.toList) = true := (eq_str x nm).trans (decide_eq_true hxe)
         have HTT := Lib.hid (show (ns.any fun x => decide (x = nm)) = true from List.any_eq_true.2 ⟨x, List.mem_of_getElem? hx, decide_eq_true hxe⟩)
         have HC := Lib.hid (chk_wrong (j := s.size) HT.out ha (by rw [HTW.out, HTT.out]; simp) (by rw [HEN.out]))
         clear hx hxe HTT
         have hbq := below_drewN hbw q
         go_wp2_with fail
         go_quiet (fail)
         go_wp2_with fail
         go_quiet (fail)
         go_wp2
         go_ret2
         exact gives_chk (chk_of HC.out) (by first | exact below_drewN hbq _ | exact below_drewN hbw _)
        ·have hxx : (x.toList == nm.toList) = false := (eq_str x nm).trans (decide_eq_false hxe)
         have HKS := Lib.hid (show (ns.take (k + 1)).any (fun x => decide (x = nm)) = false by rw [take_snoc hx, List.any_append, HKN.out]; simp [hxe])
         clear hx hxe HKN
         go_wp2_with fail
         go_quiet (fail)
         go_wp2_with fail
         go_quiet (fail)
         go_wp2
         go_roundw
         case rel => exact ⟨k + 1, _, by omega, by go_num, rfl, HKS⟩
         case measure => simp [RowKit.intOf]; omega
       ·obtain rfl : k = ns.length := by omega
        have hnn := HKN.out
        rw [List.take_length] at hnn
        have HNN := Lib.hid hnn
        clear hnn HKN
        have hownq := own_below hown (below_drewN (Below.refl _ _) q)
        have hbq := below_drewN hbw q
        go_wp2_with (at_builtin; refine wpList_append_own _ rfl _ _ 33 rfl w.heap.size 9 i0 (.string ⟨#[]⟩) 1 16 Tryz.underlying33 hi0 hz0 hz1 hz2 rfl (by decide) _ _ _ rfl (hownq.alloc _) ⟨xo.heap.size, 0, none⟩ 1 1 [.string nm] rfl rfl (cell_one_new _ _ _) ?c1 ?c2 ?c3 ?c4 ?c5)
        case c1 => exact strs_oneCell [nm]
        case c2 => unfold maxLen; omega
        case c3 => omega
        case c4 => simp; have := hbw.size; omega
        case c5 =>
         intro v' w3 hown3 hg3 _
         have hb3 : Below w.heap.size w w3 := (hbq.alloc hbq.size _).grown hg3 (by simp; have := hbw.size; omega) (own_lt hownq)
         have ho3 : w3.ownsRow w.heap.size 9 1 v' (ns ++ [nm]).length ((ns ++ [nm]).map .string) := by rw [List.length_append, List.map_append]; exact hown3
         clear hown3 hg3 hownq hbq hown
         have HN := Lib.hid ((readF_on ha (by rw [wrong_end HEN.out (Nat.le_refl _), HTW.out, HNN.out]; rfl)).symm.trans HT.out)
         rw [HEN.out] at HN
         have HNS2 := Lib.hid (show ns ++ [nm] = namesOf (l ++ [pcAt s (a + 1)]) by rw [names_one l HPK.out, HPN.out, ← HNS.out])
         clear HTW HNN HEN HPN HPK HK HNS HT
         have HNS := HNS2
         clear HNS2
         by_cases hbig : 1024 < s.size
         ·have hbi : (1024 : Int) < (s.size : Int) := by omega
          have hge : (1024 : Int) ≤ (s.size : Int) := by omega
          have HC := Lib.hid (chk_much HN.out hbig)
          clear HN HNS
          go_wp2
          go_ret2
          exact gives_chk (chk_of_1024 HC.out) hb3
         ·have hbi : ¬ (1024 : Int) < (s.size : Int) := by omega
          have HC := Lib.hid (chk_fine HN.out (by omega))
          clear HN HNS
          by_cases hge2 : s.size = 1024
          ·have hge : (1024 : Int) ≤ (s.size : Int) := by omega
           go_wp2
           go_ret2
           exact gives_chk (by rw [HC.out]; rfl) hb3
          ·have hge : ¬ (1024 : Int) ≤ (s.size : Int) := by omega
           go_wp2
           go_ret2
           exact gives_chk (by rw [HC.out]; rfl) hb3
  ·have hK1 := hK
   clear hK1
   have hbi := @bt_eq s (a + 1) n0
   have hli : (a : Int) + 1 < (s.size : Int) := by omega
   have q1 : (bt s (a + 1) == 58) = false := by rw [n1]; rfl
   have q2 : (bt s (a + 1) == 42) = true := by rw [n1]; rfl
   clear n1
   go_wp2
   go_loop [7] (fun v => ∃ j : Nat, a + 1 + 1 ≤ j ∧ j ≤ s.size ∧ v = .int .i64 j ∧ Hid (NameTo s (a + 1 + 1) j)) (fun v => s.size - (RowKit.intOf v).toNat)
   case atStart => exact ⟨a + 1 + 1, Nat.le_refl _, by omega, by go_num, Lib.hid NameTo.zero⟩
   case round =>
    obtain ⟨j, haj, hj, rfl, HNT⟩ := hrel
    by_cases hjs : j < s.size
    ·have hbj := @bt_eq s j hjs
     by_cases h47 : bt s j = 47
     ·have hq : (bt s j != 47) = false := by rw [h47]; rfl
      by_cases e2 : j = a + 1 + 1
      ·have hje : ((j : Int) == (a : Int) + 1 + 1) = true := beq_iff_eq.2 (by omega)
       have hen : endAt s (a + 1) = (a + 1 + 1, false) := by rw [endAt_name (by rw [hK]; decide)]; exact nameE_no (fun h => by rw [← e2, h47] at h; exact absurd h.2 (by decide))
       have HC := Lib.hid (chk_wrong (j := j) HT.out ha (by rw [wrong_not hen]; rfl) (by rw [hen]; exact e2.symm))
       clear hen e2
       go_wp2
       go_ret2
       exact gives_chk (chk_of HC.out) hbw
      ·have hje : ((j : Int) == (a : Int) + 1 + 1) = false := beq_eq_false_iff_ne.2 (by omega)
       have hen : endAt s (a + 1) = (j, true) := by rw [endAt_name (by rw [hK]; decide)]; exact HNT.out.stop (by omega) (by omega) (fun h => by rw [h47]; exact slash_name)
       have hpn := pcAt_name (by rw [hK]; decide) hen
       have hpk : ¬ (pcAt s (a + 1)).1 = 0 := by show ¬ kindAt s (a + 1) = 0; rw [hK]; decide
       have htw := twice_names (l := l) hpk
       rw [hpn, ← HNS.out] at htw
       have HEN := Lib.hid hen
       have HPN := Lib.hid hpn
       have HPK := Lib.hid hpk
       have HTW := Lib.hid htw
       have HK := Lib.hid hK
       have hle2 : (a : Int) + 1 + 1 ≤ (j : Int) := by omega
       have t2 : ((a : Int) + 1 + 1).toNat = a + 1 + 1 := by omega
       have hrow := own_row hown
       have HROW := Lib.hid hrow
       have H47 := Lib.hid h47
       clear h47
       clear hen hpn hpk htw hK hrow e2 HNT
       obtain ⟨nm, hnm⟩ : ∃ nm, s.extract (a + 1 + 1) j = nm := ⟨_, rfl⟩
       rw [hnm] at HTW HPN
       obtain ⟨xo, rfl⟩ : ∃ xo : World, xo = wr := ⟨_, rfl⟩
       go_wp2
       go_loopw [8] (fun v wr => ∃ k q : Nat, k ≤ ns.length ∧ v = .int .i64 k ∧ wr = xo.drewN q ∧ Hid ((ns.take k).any (fun x => decide (x = nm)) = false)) (fun v _ => ns.length - (RowKit.intOf v).toNat)
       case atStart => exact ⟨0, 0, by omega, rfl, rfl, Lib.hid rfl⟩
       case round =>
        obtain ⟨k, q, hk, rfl, rfl, HKN⟩ := hrel
        by_cases hkl : k < ns.length
        ·obtain ⟨x, hx⟩ := some_of_lt hkl
         obtain ⟨b, off, rfl, hb, h0⟩ := HROW.out.str hx
         have hki : (k : Int) < (ns.length : Int) := by omega
         by_cases hxe : x = nm
         ·have hxx : (x.toList == nm.toList) = true := (eq_str x nm).trans (decide_eq_true hxe)
          have HTT := Lib.hid (show (ns.any fun x => decide (x = nm)) = true from List.any_eq_true.2 ⟨x, List.mem_of_getElem? hx, decide_eq_true hxe⟩)
          have HC := Lib.hid (chk_wrong (j := j) HT.out ha (by rw [HTW.out, HTT.out]; simp) (by rw [HEN.out]))
          clear hx hxe HTT
          have hbq := below_drewN hbw q
          have hjl : (j : Int) < (s.size : Int) := by omega
          go_wp2_with fail
          go_quiet (fail)
          go_wp2
          go_ret2
          exact gives_chk (chk_of HC.out) (by first | exact below_drewN hbq _ | exact below_drewN hbw _)
         ·have hxx : (x.toList == nm.toList) = false := (eq_str x nm).trans (decide_eq_false hxe)
          have HKS := Lib.hid (show (ns.take (k + 1)).any (fun x => decide (x = nm)) = false by rw [take_snoc hx, List.any_append, HKN.out]; simp [hxe])
          clear hx hxe HKN
          go_wp2_with fail
          go_quiet (fail)
          go_wp2_with fail
          go_quiet (fail)
          go_wp2
          go_roundw
          case rel => exact ⟨k + 1, _, by omega, by go_num, rfl, HKS⟩
          case measure => simp [RowKit.intOf]; omega
        ·obtain rfl : k = ns.length := by omega
         have hnn := HKN.out
         rw [List.take_length] at hnn
         have HNN := Lib.hid hnn
         clear hnn HKN
         have hownq := own_below hown (below_drewN (Below.refl _ _) q)
         have hbq := below_drewN hbw q
         go_wp2_with (at_builtin; refine wpList_append_own _ rfl _ _ 33 rfl w.heap.size 9 i0 (.string ⟨#[]⟩) 1 16 Tryz.underlying33 hi0 hz0 hz1 hz2 rfl (by decide) _ _ _ rfl (hownq.alloc _) ⟨xo.heap.size, 0, none⟩ 1 1 [.string nm] rfl rfl (cell_one_new _ _ _) ?c1 ?c2 ?c3 ?c4 ?c5)
         case c1 => exact strs_oneCell [nm]
         case c2 => unfold maxLen; omega
         case c3 => omega
         case c4 => simp; have := hbw.size; omega
         case c5 =>
          intro v' w3 hown3 hg3 _
          have hb3 : Below w.heap.size w w3 := (hbq.alloc hbq.size _).grown hg3 (by simp; have := hbw.size; omega) (own_lt hownq)
          have ho3 : w3.ownsRow w.heap.size 9 1 v' (ns ++ [nm]).length ((ns ++ [nm]).map .string) := by rw [List.length_append, List.map_append]; exact hown3
          clear hown3 hg3 hownq hbq hown
          have hjl : (j : Int) < (s.size : Int) := by omega
          have HC := Lib.hid (chk_wrong (j := j) HT.out ha (by rw [wrong_rest HEN.out hjs HK.out]; rfl) (by rw [HEN.out]))
          clear HTW HNN HEN HPN HPK HK HNS HT
          go_wp2
          go_ret2
          exact gives_chk (chk_of HC.out) hb3
     ·have hq : (bt s j != 47) = true := by simpa using h47
      by_cases hjm : j < 1024
      ·have hjmi : ¬ (1024 : Int) ≤ (j : Int) := by omega
       by_cases e2 : j = a + 1 + 1
       ·have hje : ((j : Int) == (a : Int) + 1 + 1) = true := beq_iff_eq.2 (by omega)
        have HB := Lib.hid (fun w => rNameByte_any (bt s j) true w)
        rw [if_pos rfl] at HB
        cases hb : letB (bt s j)
        ·rw [hb] at HB
         have hen : endAt s (a + 1) = (a + 1 + 1, false) := by rw [endAt_name (by rw [hK]; decide)]; exact nameE_no (fun h => by rw [← e2, hb] at h; cases h.2)
         have HC := Lib.hid (chk_wrong (j := j) HT.out ha (by rw [wrong_not hen]; rfl) (by rw [hen]; exact e2.symm))
         clear hen hb e2 h47 hK
         go_wp2_with fail
         refine (HB.out _).mono ?_
         rintro e' w1 ⟨rfl, rfl⟩
         go_wp2
         go_ret2
         exact gives_chk (chk_of HC.out) hbw
        ·rw [hb] at HB
         have HNS2 := Lib.hid (HNT.out.succ haj (by rw [if_pos e2]; exact hb))
         clear hb e2 h47 HNT
         go_wp2_with fail
         refine (HB.out _).mono ?_
         rintro e' w1 ⟨rfl, rfl⟩
         go_wp2
         go_round
         case rel => exact ⟨j + 1, by omega, by omega, by go_num, HNS2⟩
         case measure => simp [RowKit.intOf]; omega
       ·have hje : ((j : Int) == (a : Int) + 1 + 1) = false := beq_eq_false_iff_ne.2 (by omega)
        have HB := Lib.hid (fun w => rNameByte_any (bt s j) false w)
        rw [if_neg (by decide)] at HB
        cases hb : nameB (bt s j)
        ·rw [hb] at HB
         have hen : endAt s (a + 1) = (j, true) := by rw [endAt_name (by rw [hK]; decide)]; exact HNT.out.stop (by omega) (by omega) (fun _ => hb)
         have HC := Lib.hid (chk_wrong (j := j) HT.out ha (by rw [wrong_other hen hjs h47]; rfl) (by rw [hen]))
         clear hen hb e2 h47 hK
         go_wp2_with fail
         refine (HB.out _).mono ?_
         rintro e' w1 ⟨rfl, rfl⟩
         go_wp2
         go_ret2
         exact gives_chk (chk_of HC.out) hbw
        ·rw [hb] at HB
         have HNS2 := Lib.hid (HNT.out.succ haj (by rw [if_neg e2]; exact hb))
         clear hb e2 h47 HNT
         go_wp2_with fail
         refine (HB.out _).mono ?_
         rintro e' w1 ⟨rfl, rfl⟩
         go_wp2
         go_round
         case rel => exact ⟨j + 1, by omega, by omega, by go_num, HNS2⟩
         case measure => simp [RowKit.intOf]; omega
      ·have hjmi : (1024 : Int) ≤ (j : Int) := by omega
       have HC := Lib.hid (chk_end HT.out ha (by omega) (by rw [endAt_name (by rw [hK]; decide)]; have := HNT.out.le haj hj; omega))
       clear h47 hK
       go_wp2
       go_ret2
       exact gives_chk (chk_of_1024 HC.out) hbw
    ·obtain rfl : j = s.size := by omega
     by_cases e2 : s.size = a + 1 + 1
     ·have hje : ((s.size : Int) == (a : Int) + 1 + 1) = true := beq_iff_eq.2 (by omega)
      have hen : endAt s (a + 1) = (a + 1 + 1, false) := by rw [endAt_name (by rw [hK]; decide)]; exact nameE_no (by omega)
      have HC := Lib.hid (chk_wrong (j := s.size) HT.out ha (by rw [wrong_not hen]; rfl) (by rw [hen]; exact e2.symm))
      clear hen e2
      go_wp2
      go_ret2
      exact gives_chk (chk_of HC.out) hbw
     ·have hje : ((s.size : Int) == (a : Int) + 1 + 1) = false := beq_eq_false_iff_ne.2 (by omega)
      have hen : endAt s (a + 1) = (s.size, true) := by rw [endAt_name (by rw [hK]; decide)]; exact HNT.out.stop (by omega) (by omega) (fun h => by omega)
      have hpn := pcAt_name (by rw [hK]; decide) hen
      have hpk : ¬ (pcAt s (a + 1)).1 = 0 := by show ¬ kindAt s (a + 1) = 0; rw [hK]; decide
      have htw := twice_names (l := l) hpk
      rw [hpn, ← HNS.out] at htw
      have HEN := Lib.hid hen
      have HPN := Lib.hid hpn
      have HPK := Lib.hid hpk
      have HTW := Lib.hid htw
      have HK := Lib.hid hK
      have hle2 : (a : Int) + 1 + 1 ≤ (s.size : Int) := by omega
      have t2 : ((a : Int) + 1 + 1).toNat = a + 1 + 1 := by omega
      have hrow := own_row hown
      have HROW := Lib.hid hrow
      clear hen hpn hpk htw hK hrow e2 HNT
      obtain ⟨nm, hnm⟩ : ∃ nm, s.extract (a + 1 + 1) s.size = nm := ⟨_, rfl⟩
      rw [hnm] at HTW HPN
      obtain ⟨xo, rfl⟩ : ∃ xo : World, xo = wr := ⟨_, rfl⟩
      go_wp2
      go_loopw [8] (fun v wr => ∃ k q : Nat, k ≤ ns.length ∧ v = .int .i64 k ∧ wr = xo.drewN q ∧ Hid ((ns.take k).any (fun x => decide (x = nm)) = false)) (fun v _ => ns.length - (RowKit.intOf v).toNat)
      case atStart => exact ⟨0, 0, by omega, rfl, rfl, Lib.hid rfl⟩
      case round =>
       obtain ⟨k, q, hk, rfl, rfl, HKN⟩ := hrel
       by_cases hkl : k < ns.length
       ·obtain ⟨x, hx⟩ := some_of_lt hkl
        obtain ⟨b, off, rfl, hb, h0⟩ := HROW.out.str hx
        have hki : (k : Int) < (ns.length : Int) := by omega
        by_cases hxe : x = nm
        ·have hxx : (x.toList == nm.toList) = true := (eq_str x nm).trans (decide_eq_true hxe)
         have HTT := Lib.hid (show (ns.any fun x => decide (x = nm)) = true from List.any_eq_true.2 ⟨x, List.mem_of_getElem? hx, decide_eq_true hxe⟩)
         have HC := Lib.hid (chk_wrong (j := s.size) HT.out ha (by rw [HTW.out, HTT.out]; simp) (by rw [HEN.out]))
         clear hx hxe HTT
         have hbq := below_drewN hbw q
         go_wp2_with fail
         go_quiet (fail)
         go_wp2_with fail
         go_quiet (fail)
         go_wp2
         go_ret2
         exact gives_chk (chk_of HC.out) (by first | exact below_drewN hbq _ | exact below_drewN hbw _)
        ·have hxx : (x.toList == nm.toList) = false := (eq_str x nm).trans (decide_eq_false hxe)
         have HKS := Lib.hid (show (ns.take (k + 1)).any (fun x => decide (x = nm)) = false by rw [take_snoc hx, List.any_append, HKN.out]; simp [hxe])
         clear hx hxe HKN
         go_wp2_with fail
         go_quiet (fail)
         go_wp2_with fail
         go_quiet (fail)
         go_wp2
         go_roundw
         case rel => exact ⟨k + 1, _, by omega, by go_num, rfl, HKS⟩
         case measure => simp [RowKit.intOf]; omega
       ·obtain rfl : k = ns.length := by omega
        have hnn := HKN.out
        rw [List.take_length] at hnn
        have HNN := Lib.hid hnn
        clear hnn HKN
        have hownq := own_below hown (below_drewN (Below.refl _ _) q)
        have hbq := below_drewN hbw q
        go_wp2_with (at_builtin; refine wpList_append_own _ rfl _ _ 33 rfl w.heap.size 9 i0 (.string ⟨#[]⟩) 1 16 Tryz.underlying33 hi0 hz0 hz1 hz2 rfl (by decide) _ _ _ rfl (hownq.alloc _) ⟨xo.heap.size, 0, none⟩ 1 1 [.string nm] rfl rfl (cell_one_new _ _ _) ?c1 ?c2 ?c3 ?c4 ?c5)
        case c1 => exact strs_oneCell [nm]
        case c2 => unfold maxLen; omega
        case c3 => omega
        case c4 => simp; have := hbw.size; omega
        case c5 =>
         intro v' w3 hown3 hg3 _
         have hb3 : Below w.heap.size w w3 := (hbq.alloc hbq.size _).grown hg3 (by simp; have := hbw.size; omega) (own_lt hownq)
         have ho3 : w3.ownsRow w.heap.size 9 1 v' (ns ++ [nm]).length ((ns ++ [nm]).map .string) := by rw [List.length_append, List.map_append]; exact hown3
         clear hown3 hg3 hownq hbq hown
         have HN := Lib.hid ((readF_on ha (by rw [wrong_end HEN.out (Nat.le_refl _), HTW.out, HNN.out]; rfl)).symm.trans HT.out)
         rw [HEN.out] at HN
         have HNS2 := Lib.hid (show ns ++ [nm] = namesOf (l ++ [pcAt s (a + 1)]) by rw [names_one l HPK.out, HPN.out, ← HNS.out])
         clear HTW HNN HEN HPN HPK HK HNS HT
         have HNS := HNS2
         clear HNS2
         by_cases hbig : 1024 < s.size
         ·have hbi : (1024 : Int) < (s.size : Int) := by omega
          have hge : (1024 : Int) ≤ (s.size : Int) := by omega
          have HC := Lib.hid (chk_much HN.out hbig)
          clear HN HNS
          go_wp2
          go_ret2
          exact gives_chk (chk_of_1024 HC.out) hb3
         ·have hbi : ¬ (1024 : Int) < (s.size : Int) := by omega
          have HC := Lib.hid (chk_fine HN.out (by omega))
          clear HN HNS
          by_cases hge2 : s.size = 1024
          ·have hge : (1024 : Int) ≤ (s.size : Int) := by omega
           go_wp2
           go_ret2
           exact gives_chk (by rw [HC.out]; rfl) hb3
          ·have hge : ¬ (1024 : Int) ≤ (s.size : Int) := by omega
           go_wp2
           go_ret2
           exact gives_chk (by rw [HC.out]; rfl) hb3
end Go.Proofs.YtiohmnhbmmhnhaaGreatDoor
