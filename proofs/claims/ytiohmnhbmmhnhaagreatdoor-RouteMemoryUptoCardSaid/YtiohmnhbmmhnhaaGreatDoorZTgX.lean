/-
 TgX, without what this claim does not reach.
-/
import Derived.Test.YtiohmnhbmmhnhaaGreatDoorZTgW
import Derived.Deep.QuietTactic
import Derived.BigQuiet
import Derived.WalkSpells
import Derived.IntWalk
namespace Go.Proofs.YtiohmnhbmmhnhaaGreatDoor
open Go.RowKit Go.Shelf Go.Lib
theorem digit_q (c : Int) (w : World) (h0 : 0 ≤ c) (h1 : c < 256) :
  Calls Tryz.prog 160 #[.int .u8 c] w fun e w' => e = .returned (.int .i64 (digV c)) ∧ w' = w := (digit_any c w h0 h1).mono fun _ _ ⟨h, h2⟩ => ⟨h, h2.symm⟩
theorem gives_tri {w : World} {s : ByteArray} {i q : Nat} {b : Bool} {v : Int} (hb : tri s i = b) (hv : b = true → v = triV s i) : GivesTri w s i (.returned (.tuple #[.int .u8 v, .bool b])) (w.drewN q) := ⟨v, by rw [hb], fun h => hv (by rw [← hb]; exact h), q, rfl⟩
set_option maxRecDepth 20000 in
set_option maxHeartbeats 1000000 in
theorem triple_any (s : ByteArray) (i : Nat) (w : World) (hs : s.size ≤ 1099511627776) (hi : i ≤ s.size) :
  Calls Tryz.prog 127 #[.string s, .int .i64 i] w (GivesTri w s i) := by
 by_cases h2 : i + 2 < s.size
 ·have hb := @bt_eq s i (by omega)
  by_cases h37 : bt s i = 37
  ·have hne : (bt s i != 37) = false := by rw [h37]; rfl
   have hb1 := @bt_eq s (i + 1) (by omega)
   have hb2 := @bt_eq s (i + 2) (by omega)
   have i1 : ((i : Int) + 1).toNat = i + 1 := by omega
   have i2 : ((i : Int) + 2).toNat = i + 2 := by omega
   have l1 : (i : Int) + 1 < (s.size : Int) := by omega
   have l2 : (i : Int) + 2 < (s.size : Int) := by omega
   have r1 := digV_range (bt s (i + 1))
   have r2 := digV_range (bt s (i + 2))
   have H1 := Lib.hid (fun w => digit_q (bt s (i + 1)) w (bt_nonneg s _) (bt_lt s _))
   have H2 := Lib.hid (fun w => digit_q (bt s (i + 2)) w (bt_nonneg s _) (bt_lt s _))
   have HY := Lib.hid (fun (g1 : 0 ≤ digV (bt s (i + 1))) (g2 : 0 ≤ digV (bt s (i + 2))) => (tri_iff (s := s) (i := i)).2 ⟨h2, h37, g1, g2⟩)
   have HN1 := Lib.hid (fun g => tri_one (s := s) (i := i) g)
   have HN2 := Lib.hid (fun g => tri_two (s := s) (i := i) g)
   have HV := Lib.hid (show triV s i = digV (bt s (i + 1)) * 16 + digV (bt s (i + 2)) from rfl)
   clear h37
   generalize digV (bt s (i + 1)) = a at *
   generalize digV (bt s (i + 2)) = b at *
   by_cases g1 : a < 0
   ·have HT := Lib.hid (HN1.out g1)
    clear HY HN1 HN2 HV
    go_enter Tryz.func127, Tryz.ntmps127
    go_wp2_with fail
    go_quiet (first | (go_at_call 160; with_reducible exact Calls.quiet_of_same (H1.out _)) | (go_at_call 160; with_reducible exact Calls.quiet_of_same (H2.out _)))
    go_wp2
    go_ret2
    exact gives_tri HT.out (fun h => by cases h)
   ·by_cases g2 : b < 0
    ·have HT := Lib.hid (HN2.out g2)
     have g1' : 0 ≤ a := by omega
     have hd : decide (0 ≤ b) = false := decide_eq_false (by omega)
     clear HY HN1 HN2 HV
     go_enter Tryz.func127, Tryz.ntmps127
     go_wp2_with fail
     go_quiet (first | (go_at_call 160; with_reducible exact Calls.quiet_of_same (H1.out _)) | (go_at_call 160; with_reducible exact Calls.quiet_of_same (H2.out _)))
     go_wp2
     go_ret2
     exact gives_tri HT.out (fun h => by cases h)
    ·have HT := Lib.hid (HY.out (by omega) (by omega))
     have HS := Lib.hid (tri_sum (a := a) (b := b) (by omega) (by omega) (by omega) (by omega))
     have g1' : 0 ≤ a := by omega
     have g2' : 0 ≤ b := by omega
     clear HY HN1 HN2
     go_enter Tryz.func127, Tryz.ntmps127
     go_wp2_with fail
     go_quiet (first | (go_at_call 160; with_reducible exact Calls.quiet_of_same (H1.out _)) | (go_at_call 160; with_reducible exact Calls.quiet_of_same (H2.out _)))
     go_wp2
     go_ret2
     exact gives_tri HT.out (fun _ => by rw [HS.out, HV.out]; omega)
  ·have hne : (bt s i != 37) = true := by simpa using h37
   have HT := Lib.hid (tri_other h37)
   clear h37
   go_enter Tryz.func127, Tryz.ntmps127
   go_wp2
   go_ret2
   exact gives_tri (q := 0) HT.out (fun h => by cases h)
 ·have HT := Lib.hid (tri_short (s := s) (i := i) (by omega))
  have hd : decide ((s.size : Int) ≤ (i : Int) + 2) = true := decide_eq_true (by omega)
  go_enter Tryz.func127, Tryz.ntmps127
  go_wp2
  go_ret2
  exact gives_tri (q := 0) HT.out (fun h => by cases h)
set_option maxRecDepth 20000 in
set_option maxHeartbeats 1000000 in
theorem signs_any (s : ByteArray) (m : Int) (w : World) (hs : s.size ≤ 1099511627776) :
  Calls Tryz.prog 124 #[.string s, .int .i64 m] w fun e w' => e = .returned (.int .i64 (stopF (mayB m) s 0)) ∧ ∃ q : Nat, w' = w.drewN q := by
 go_enter Tryz.func124, Tryz.ntmps124
 go_wp2
 go_loopw [5] (fun v wr => ∃ (i q : Nat), i ≤ s.size ∧ v = .int .i64 i ∧ stopF (mayB m) s i = stopF (mayB m) s 0 ∧ wr = w.drewN q) (fun v _ => s.size - (RowKit.intOf v).toNat)
 case atStart => exact ⟨0, 0, by omega, rfl, rfl, rfl⟩
 case round =>
  obtain ⟨i, q, hi, rfl, hst, rfl⟩ := hrel
  have HST := Lib.hid hst
  clear hst
  by_cases hlt : i < s.size
  ·have hb := @bt_eq s i hlt
   have HT3 := Lib.hid (triple_any s i (w.drewN q) hs hi)
   have HC := Lib.hid (fun w => class_any (bt s i) w (bt_nonneg s i) (bt_lt s i))
   go_wp2_with fail
   refine HT3.out.mono ?_
   rintro e w1 ⟨v, rfl, _, q1, rfl⟩
   cases ht : tri s i
   ·cases hp : mayB m (bt s i)
    ·have HF := Lib.hid (HST.out.symm.trans (stopF_stop (P := mayB m) hlt ht hp))
     have hq : (bits BinOp.and IntKind.i64 (classI (bt s i)) m == 0) = true := by unfold mayB at hp; simpa using hp
     go_wp2_with fail
     refine (HC.out _).mono ?_
     rintro e w2 ⟨rfl, rfl⟩
     go_wp2
     go_ret
     exact ⟨ret_int (by rw [HF.out]), _, rfl⟩
    ·have HF := Lib.hid ((stopF_on (P := mayB m) hlt ht hp).symm.trans HST.out)
     have hq : (bits BinOp.and IntKind.i64 (classI (bt s i)) m == 0) = false := by unfold mayB at hp; simpa using hp
     go_wp2_with fail
     refine (HC.out _).mono ?_
     rintro e w2 ⟨rfl, rfl⟩
     go_wp2
     go_roundw
     case rel => exact ⟨i + 1, _, by omega, by go_num, HF.out, rfl⟩
     case measure => simp [RowKit.intOf]; omega
   ·have HF := Lib.hid ((stopF_tri (P := mayB m) ht).symm.trans HST.out)
    have h3 := (tri_iff.1 ht).1
    go_wp2
    go_roundw
    case rel => exact ⟨i + 3, _, by omega, by go_num, HF.out, rfl⟩
    case measure => simp [RowKit.intOf]; omega
  ·obtain rfl : i = s.size := by omega
   have HF := Lib.hid (HST.out.symm.trans (stopF_end (P := mayB m) (s := s) (Nat.le_refl _)))
   go_wp2
   go_ret
   exact ⟨ret_int (by rw [HF.out]), _, rfl⟩
theorem signs_path (s : ByteArray) (w : World) (hs : s.size ≤ 1099511627776) : Calls Tryz.prog 124 #[.string s, .int .i64 15] w fun e w' => e = .returned (.int .i64 (pathStop s)) ∧ ∃ q : Nat, w' = w.drewN q :=
 (signs_any s 15 w hs).mono fun _ _ ⟨h, h2⟩ => ⟨by rw [h, stopF_congr (fun c h0 h1 => may_path h0 h1) s s.size 0 (by omega)]; rfl, h2⟩
end Go.Proofs.YtiohmnhbmmhnhaaGreatDoor
