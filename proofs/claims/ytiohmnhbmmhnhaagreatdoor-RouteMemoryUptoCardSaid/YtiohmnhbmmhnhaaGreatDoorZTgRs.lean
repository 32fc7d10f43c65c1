/-
 TgRs, without what this claim does not reach.
-/
import Derived.Test.YtiohmnhbmmhnhaaGreatDoorZTgDc
import Derived.Test.YtiohmnhbmmhnhaaGreatDoorZTgB
import Derived.Test.YtiohmnhbmmhnhaaGreatDoorZTgR
import Derived.Test.YtiohmnhbmmhnhaaGreatDoorZTgT
import Derived.Test.YtiohmnhbmmhnhaaGreatDoorZTgLib
namespace Go.Proofs.YtiohmnhbmmhnhaaGreatDoor
open Go.RowKit Go.Shelf Go.Lib
end Go.Proofs.YtiohmnhbmmhnhaaGreatDoor
namespace Go.Proofs.YtiohmnhbmmhnhaaGreatDoor
open Go.RowKit Go.Shelf Go.Lib
def Tg.val (t : Tg) : Value := .agg #[.int .i64 t.form, .string t.host, .int .i64 t.port, .string t.path, .string t.query, .bool t.hasq]
section
variable {t : Tg} {s : ByteArray} {i : Nat}
end
end Go.Proofs.YtiohmnhbmmhnhaaGreatDoor
namespace Go.Proofs.YtiohmnhbmmhnhaaGreatDoor
open Go.RowKit Go.Shelf Go.Lib
def scanR (P : Int → Bool) (s : ByteArray) (o : Int) : Nat × Int := if stopF P s 0 < s.size then (stopF P s 0, wrongE s (stopF P s 0) o) else (0, 0)
def scanVal (r : Nat × Int) : Value := .tuple #[.int .i64 (r.1 : Int), .int .i64 r.2]
theorem scanR_at {P : Int → Bool} {s : ByteArray} {o : Int} {i : Nat} (h : stopF P s 0 = i) (hi : i < s.size) (hp : bt s i ≠ 37) : scanR P s o = (i, o) := by
 unfold scanR wrongE
 rw [h, if_pos hi, if_neg hp]
theorem scanR_bad {P : Int → Bool} {s : ByteArray} {o : Int} {i : Nat} (h : stopF P s 0 = i) (hi : i < s.size) (hp : bt s i = 37) : scanR P s o = (i, 51) := by
 unfold scanR wrongE
 rw [h, if_pos hi, if_pos hp]
theorem scanR_end {P : Int → Bool} {s : ByteArray} {o : Int} (h : stopF P s 0 = s.size) : scanR P s o = (0, 0) := by
 unfold scanR
 rw [h, if_neg (Nat.lt_irrefl _)]
theorem ret_scan {a b : Nat × Int} (h : a = b) : Ending.returned (scanVal a) = .returned (scanVal b) := by rw [h]
theorem in_one (a : UInt8) (c : Int) : inB ⟨#[a]⟩ c = decide (c = (a.toNat : Int)) := by
 unfold inB
 rw [show allB (fun b => !decide (b = c)) ⟨#[a]⟩ = !decide ((a.toNat : Int) = c) from by simp [allB]]
 by_cases h : c = (a.toNat : Int) <;> simp [h, eq_comm]
theorem in_two (a b : UInt8) (c : Int) : inB ⟨#[a, b]⟩ c = (decide (c = (a.toNat : Int)) || decide (c = (b.toNat : Int))) := by
 unfold inB
 rw [show allB (fun b => !decide (b = c)) ⟨#[a, b]⟩ = ((!decide ((a.toNat : Int) = c)) && !decide ((b.toNat : Int) = c)) from by simp [allB]]
 by_cases h : c = (a.toNat : Int) <;> by_cases h2 : c = (b.toNat : Int) <;> simp [h, h2, eq_comm]
set_option maxRecDepth 20000 in
set_option maxHeartbeats 4000000 in
theorem rscan_any (more : ByteArray) (P : Int → Bool) (s : ByteArray) (o : Int) (w : World) (hs : s.size ≤ 1099511627776) (hm : more.size ≤ 1099511627776)
  (hP : ∀ c, P c = (((unres c || subd c) || inB ⟨#[58, 64]⟩ c) || inB more c)) (h0 : P 37 = false) :
  Calls Tryz.prog 100 #[.string s, .int .i64 0, .string more, .int .i64 o] w fun e w' => e = .returned (scanVal (scanR P s o)) ∧ w = w' := by
 have HP := Lib.hid hP
 clear hP
 go_enter Tryz.func100, Tryz.ntmps100
 go_wp2
 go_loop [10] (fun v => ∃ i : Nat, i ≤ s.size ∧ v = .int .i64 i ∧ stopF P s i = stopF P s 0) (fun v => s.size - (RowKit.intOf v).toNat)
 case atStart => exact ⟨0, by omega, rfl, rfl⟩
 case round =>
  obtain ⟨i, hi, rfl, hst⟩ := hrel
  have HST := Lib.hid hst
  clear hst
  by_cases hlt : i < s.size
  ·have hb := @bt_eq s i hlt
   by_cases h37 : bt s i = 37
   ·have HT := Lib.hid (rTriple_any s i w hs hi)
    have heq : (bt s i == 37) = true := by rw [h37]; rfl
    cases ht : tri s i
    ·rw [ht] at HT
     have HN := Lib.hid (scanR_bad (o := o) (HST.out.symm.trans (stopF_stop (P := P) hlt ht (by rw [h37]; exact h0))) hlt h37)
     clear h37 ht
     go_wp2_with fail
     refine HT.out.mono ?_
     rintro e w1 ⟨rfl, rfl⟩
     go_wp2
     go_ret2
     exact ⟨ret_scan HN.out.symm, rfl⟩
    ·rw [ht] at HT
     have HF := Lib.hid ((stopF_tri (P := P) ht).symm.trans HST.out)
     have h3 := (tri_iff.1 ht).1
     clear h37 ht
     go_wp2_with fail
     refine HT.out.mono ?_
     rintro e w1 ⟨rfl, rfl⟩
     go_wp2
     go_round
     case rel => exact ⟨i + 3, by omega, by go_num, HF.out⟩
     case measure => simp [RowKit.intOf]; omega
   ·have heq : (bt s i == 37) = false := by simpa using h37
    have ht : tri s i = false := tri_other h37
    have HU := Lib.hid (fun w => rUnres_any (bt s i) w)
    have HS := Lib.hid (fun w => rSub_any (bt s i) w)
    have HC := Lib.hid (fun w => rIn_any ⟨#[58, 64]⟩ (bt s i) w (by show 2 ≤ 1099511627776; omega))
    have HM := Lib.hid (fun w => rIn_any more (bt s i) w hm)
    have hpp := HP.out (bt s i)
    cases ha : unres (bt s i)
    rotate_left
    ·rw [ha] at HU hpp
     have HF := Lib.hid ((stopF_on (P := P) hlt ht (by rw [hpp]; simp)).symm.trans HST.out)
     clear ha ht hpp h37 HS HC HM
     go_wp2_with fail
     refine (HU.out _).mono ?_
     rintro e w1 ⟨rfl, rfl⟩
     go_wp2
     go_round
     case rel => exact ⟨i + 1, by omega, by go_num, HF.out⟩
     case measure => simp [RowKit.intOf]; omega
    rw [ha] at HU hpp
    clear ha
    cases hb : subd (bt s i)
    rotate_left
    ·rw [hb] at HS hpp
     have HF := Lib.hid ((stopF_on (P := P) hlt ht (by rw [hpp]; simp)).symm.trans HST.out)
     clear hb ht hpp h37 HC HM
     go_wp2_with fail
     refine (HU.out _).mono ?_
     rintro e w1 ⟨rfl, rfl⟩
     go_wp2_with fail
     refine (HS.out _).mono ?_
     rintro e w1 ⟨rfl, rfl⟩
     go_wp2
     go_round
     case rel => exact ⟨i + 1, by omega, by go_num, HF.out⟩
     case measure => simp [RowKit.intOf]; omega
    rw [hb] at HS hpp
    clear hb
    cases hc : inB ⟨#[58, 64]⟩ (bt s i)
    rotate_left
    ·rw [hc] at HC hpp
     have HF := Lib.hid ((stopF_on (P := P) hlt ht (by rw [hpp]; simp)).symm.trans HST.out)
     clear hc ht hpp h37 HM
     go_wp2_with fail
     refine (HU.out _).mono ?_
     rintro e w1 ⟨rfl, rfl⟩
     go_wp2_with fail
     refine (HS.out _).mono ?_
     rintro e w1 ⟨rfl, rfl⟩
     go_wp2_with fail
     refine (HC.out _).mono ?_
     rintro e w1 ⟨rfl, rfl⟩
     go_wp2
     go_round
     case rel => exact ⟨i + 1, by omega, by go_num, HF.out⟩
     case measure => simp [RowKit.intOf]; omega
    rw [hc] at HC hpp
    clear hc
    cases hd : inB more (bt s i)
    rotate_left
    ·rw [hd] at HM hpp
     have HF := Lib.hid ((stopF_on (P := P) hlt ht (by rw [hpp]; simp)).symm.trans HST.out)
     clear hd ht hpp h37 
     go_wp2_with fail
     refine (HU.out _).mono ?_
     rintro e w1 ⟨rfl, rfl⟩
     go_wp2_with fail
     refine (HS.out _).mono ?_
     rintro e w1 ⟨rfl, rfl⟩
     go_wp2_with fail
     refine (HC.out _).mono ?_
     rintro e w1 ⟨rfl, rfl⟩
     go_wp2_with fail
     refine (HM.out _).mono ?_
     rintro e w1 ⟨rfl, rfl⟩
     go_wp2
     go_round
     case rel => exact ⟨i + 1, by omega, by go_num, HF.out⟩
     case measure => simp [RowKit.intOf]; omega
    rw [hd] at HM hpp
    clear hd
    have HN := Lib.hid (scanR_at (o := o) (HST.out.symm.trans (stopF_stop (P := P) hlt ht (by rw [hpp]; rfl))) hlt h37)
    clear ht hpp h37
    go_wp2_with fail
    refine (HU.out _).mono ?_
    rintro e w1 ⟨rfl, rfl⟩
    go_wp2_with fail
    refine (HS.out _).mono ?_
    rintro e w1 ⟨rfl, rfl⟩
    go_wp2_with fail
    refine (HC.out _).mono ?_
    rintro e w1 ⟨rfl, rfl⟩
    go_wp2_with fail
    refine (HM.out _).mono ?_
    rintro e w1 ⟨rfl, rfl⟩
    go_wp2
    go_ret2
    exact ⟨ret_scan HN.out.symm, rfl⟩
  ·obtain rfl : i = s.size := by omega
   have HN := Lib.hid (scanR_end (o := o) (HST.out.symm.trans (stopF_end (Nat.le_refl _))))
   go_wp2
   go_ret2
   exact ⟨ret_scan HN.out.symm, rfl⟩
theorem scan_path (s : ByteArray) (w : World) (hs : s.size ≤ 1099511627776) :
  Calls Tryz.prog 100 #[.string s, .int .i64 0, .string ⟨#[47]⟩, .int .i64 53] w fun e w' => e = .returned (scanVal (scanR pathSign s 53)) ∧ w = w' :=
 rscan_any ⟨#[47]⟩ pathSign s 53 w hs (by show 1 ≤ 1099511627776; omega) (fun c => by unfold pathSign hostSign; rw [in_two, in_one]; rfl) percent_no.2.1
end Go.Proofs.YtiohmnhbmmhnhaaGreatDoor
namespace Go.Proofs.YtiohmnhbmmhnhaaGreatDoor
open Go.RowKit Go.Shelf Go.Lib
theorem wrongE_code (s : ByteArray) (i : Nat) (o : Int) (ho : o = 53 ∨ o = 54) : (wrongE s i o != 0) = true := by
 unfold wrongE
 split
 ·rfl
 ·rcases ho with rfl | rfl <;> rfl
theorem scan_yes {P : Int → Bool} {s : ByteArray} {o : Int} (h : stopF P s 0 < s.size) : scanR P s o = (stopF P s 0, wrongE s (stopF P s 0) o) := if_pos h
theorem scan_no {P : Int → Bool} {s : ByteArray} {o : Int} (h : ¬ stopF P s 0 < s.size) : scanR P s o = (0, 0) := if_neg h
end Go.Proofs.YtiohmnhbmmhnhaaGreatDoor
