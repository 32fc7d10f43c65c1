/-
  TgX, TgR, TgNum, TgE, TgEn, without what the claim does not reach.
-/
import Derived.Test.YtbnafbdhomdcoaaGreatDoorZm17
import Derived.Deep.QuietTactic
import Derived.BigQuiet
import Derived.WalkSpells
import Derived.IntWalk
import Derived.Test.YtbnafbdhomdcoaaGreatDoorZPlain
import Derived.Test.YtbnafbdhomdcoaaGreatDoorZm4
import Derived.Test.YtbnafbdhomdcoaaGreatDoorZm5
import Derived.Deep.RegionHeld3
namespace Go.Proofs.YtbnafbdhomdcoaaGreatDoor.T5
open Go.RowKit Go.Shelf Go.Lib
theorem digit_q (c : Int) (w : World) (h0 : 0 ≤ c) (h1 : c < 256) :
  Calls Tryz.prog 189 #[.int .u8 c] w fun e w' => e = .returned (.int .i64 (digV c)) ∧ w' = w := (digit_any c w h0 h1).mono fun _ _ ⟨h, h2⟩ => ⟨h, h2.symm⟩
theorem gives_tri {w : World} {s : ByteArray} {i q : Nat} {b : Bool} {v : Int} (hb : tri s i = b) (hv : b = true → v = triV s i) : GivesTri w s i (.returned (.tuple #[.int .u8 v, .bool b])) (w.drewN q) := ⟨v, by rw [hb], fun h => hv (by rw [← hb]; exact h), q, rfl⟩
set_option maxRecDepth 20000 in
set_option maxHeartbeats 1000000 in
theorem triple_any (s : ByteArray) (i : Nat) (w : World) (hs : s.size ≤ 1099511627776) (hi : i ≤ s.size) :
  Calls Tryz.prog 143 #[.string s, .int .i64 i] w (GivesTri w s i) := by
 by_cases h2 : i + 2 < s.size
 ·have hb := @bt_eq s i (by omega)
  by_cases h37 : bt s i = 37
  ·have hne : (bt s i != 37) = false := by rw [h37]; rfl
   have hb1 := @bt_eq s (i + 1) (by omega)
   have hb2 := @bt_eq s (i + 2) (by omega)
   have i1 : ((i : Int) + 1).toNat = i + 1 := by omega
   have i2 : ((i : Int) + 2).toNat = i + 2 := by omega
   have l1 : (i : Int) + 1 < (s.size : Int) := by omega
   have l2 : (i : Int) + 2 < (s.size : Int) := by omega
   have r1 := digV_range (bt s (i + 1))
   have r2 := digV_range (bt s (i + 2))
   have H1 := Lib.hid (fun w => digit_q (bt s (i + 1)) w (bt_nonneg s _) (bt_lt s _))
   have H2 := Lib.hid (fun w => digit_q (bt s (i + 2)) w (bt_nonneg s _) (bt_lt s _))
   have HY := Lib.hid (fun (g1 : 0 ≤ digV (bt s (i + 1))) (g2 : 0 ≤ digV (bt s (i + 2))) => (tri_iff (s := s) (i := i)).2 ⟨h2, h37, g1, g2⟩)
   have HN1 := Lib.hid (fun g => tri_one (s := s) (i := i) g)
   have HN2 := Lib.hid (fun g => tri_two (s := s) (i := i) g)
   have HV := Lib.hid (show triV s i = digV (bt s (i + 1)) * 16 + digV (bt s (i + 2)) from rfl)
   clear h37
   generalize digV (bt s (i + 1)) = a at *
   generalize digV (bt s (i + 2)) = b at *
   by_cases g1 : a < 0
   ·have HT := Lib.hid (HN1.out g1)
    clear HY HN1 HN2 HV
    go_enter Tryz.func143, Tryz.ntmps143
    go_wp2_with fail
    go_quiet (first | (go_at_call 189; with_reducible exact Calls.quiet_of_same (H1.out _)) | (go_at_call 189; with_reducible exact Calls.quiet_of_same (H2.out _)))
    go_wp2
    go_ret2
    exact gives_tri HT.out (fun h => by cases h)
   ·by_cases g2 : b < 0
    ·have HT := Lib.hid (HN2.out g2)
     have g1' : 0 ≤ a := by omega
     have hd : decide (0 ≤ b) = false := decide_eq_false (by omega)
     clear HY HN1 HN2 HV
     go_enter Tryz.func143, Tryz.ntmps143
     go_wp2_with fail
     go_quiet (first | (go_at_call 189; with_reducible exact Calls.quiet_of_same (H1.out _)) | (go_at_call 189; with_reducible exact Calls.quiet_of_same (H2.out _)))
     go_wp2
     go_ret2
     exact gives_tri HT.out (fun h => by cases h)
    ·have HT := Lib.hid (HY.out (by omega) (by omega))
     have HS := Lib.hid (tri_sum (a := a) (b := b) (by omega) (by omega) (by omega) (by omega))
     have g1' : 0 ≤ a := by omega
     have g2' : 0 ≤ b := by omega
     clear HY HN1 HN2
     go_enter Tryz.func143, Tryz.ntmps143
     go_wp2_with fail
     go_quiet (first | (go_at_call 189; with_reducible exact Calls.quiet_of_same (H1.out _)) | (go_at_call 189; with_reducible exact Calls.quiet_of_same (H2.out _)))
     go_wp2
     go_ret2
     exact gives_tri HT.out (fun _ => by rw [HS.out, HV.out]; omega)
  ·have hne : (bt s i != 37) = true := by simpa using h37
   have HT := Lib.hid (tri_other h37)
   clear h37
   go_enter Tryz.func143, Tryz.ntmps143
   go_wp2
   go_ret2
   exact gives_tri (q := 0) HT.out (fun h => by cases h)
 ·have HT := Lib.hid (tri_short (s := s) (i := i) (by omega))
  have hd : decide ((s.size : Int) ≤ (i : Int) + 2) = true := decide_eq_true (by omega)
  go_enter Tryz.func143, Tryz.ntmps143
  go_wp2
  go_ret2
  exact gives_tri (q := 0) HT.out (fun h => by cases h)
set_option maxRecDepth 20000 in
set_option maxHeartbeats 1000000 in
theorem signs_any (s : ByteArray) (m : Int) (w : World) (hs : s.size ≤ 1099511627776) :
  Calls Tryz.prog 188 #[.string s, .int .i64 m] w fun e w' => e = .returned (.int .i64 (stopF (mayB m) s 0)) ∧ ∃ q : Nat, w' = w.drewN q := by
 go_enter Tryz.func188, Tryz.ntmps188
 go_wp2
 go_loopw [5] (fun v wr => ∃ (i q : Nat), i ≤ s.size ∧ v = .int .i64 i ∧ stopF (mayB m) s i = stopF (mayB m) s 0 ∧ wr = w.drewN q) (fun v _ => s.size - (RowKit.intOf v).toNat)
 case atStart => exact ⟨0, 0, by omega, rfl, rfl, rfl⟩
 case round =>
  obtain ⟨i, q, hi, rfl, hst, rfl⟩ := hrel
  have HST := Lib.hid hst
  clear hst
  by_cases hlt : i < s.size
  ·have hb := @bt_eq s i hlt
   have HT3 := Lib.hid (triple_any s i (w.drewN q) hs hi)
   have HC := Lib.hid (fun w => class_any (bt s i) w (bt_nonneg s i) (bt_lt s i))
   go_wp2_with fail
   refine HT3.out.mono ?_
   rintro e w1 ⟨v, rfl, _, q1, rfl⟩
   cases ht : tri s i
   ·cases hp : mayB m (bt s i)
    ·have HF := Lib.hid (HST.out.symm.trans (stopF_stop (P := mayB m) hlt ht hp))
     have hq : (bits BinOp.and IntKind.i64 (classI (bt s i)) m == 0) = true := by unfold mayB at hp; simpa using hp
     go_wp2_with fail
     refine (HC.out _).mono ?_
     rintro e w2 ⟨rfl, rfl⟩
     go_wp2
     go_ret
     exact ⟨ret_int (by rw [HF.out]), _, rfl⟩
    ·have HF := Lib.hid ((stopF_on (P := mayB m) hlt ht hp).symm.trans HST.out)
     have hq : (bits BinOp.and IntKind.i64 (classI (bt s i)) m == 0) = false := by unfold mayB at hp; simpa using hp
     go_wp2_with fail
     refine (HC.out _).mono ?_
     rintro e w2 ⟨rfl, rfl⟩
     go_wp2
     go_roundw
     case rel => exact ⟨i + 1, _, by omega, by go_num, HF.out, rfl⟩
     case measure => simp [RowKit.intOf]; omega
   ·have HF := Lib.hid ((stopF_tri (P := mayB m) ht).symm.trans HST.out)
    have h3 := (tri_iff.1 ht).1
    go_wp2
    go_roundw
    case rel => exact ⟨i + 3, _, by omega, by go_num, HF.out, rfl⟩
    case measure => simp [RowKit.intOf]; omega
  ·obtain rfl : i = s.size := by omega
   have HF := Lib.hid (HST.out.symm.trans (stopF_end (P := mayB m) (s := s) (Nat.le_refl _)))
   go_wp2
   go_ret
   exact ⟨ret_int (by rw [HF.out]), _, rfl⟩
theorem signs_host (s : ByteArray) (w : World) (hs : s.size ≤ 1099511627776) : Calls Tryz.prog 188 #[.string s, .int .i64 3] w fun e w' => e = .returned (.int .i64 (hostStop s)) ∧ ∃ q : Nat, w' = w.drewN q :=
 (signs_any s 3 w hs).mono fun _ _ ⟨h, h2⟩ => ⟨by rw [h, stopF_congr (fun c h0 h1 => may_host h0 h1) s s.size 0 (by omega)]; rfl, h2⟩
theorem signs_path (s : ByteArray) (w : World) (hs : s.size ≤ 1099511627776) : Calls Tryz.prog 188 #[.string s, .int .i64 15] w fun e w' => e = .returned (.int .i64 (pathStop s)) ∧ ∃ q : Nat, w' = w.drewN q :=
 (signs_any s 15 w hs).mono fun _ _ ⟨h, h2⟩ => ⟨by rw [h, stopF_congr (fun c h0 h1 => may_path h0 h1) s s.size 0 (by omega)]; rfl, h2⟩
theorem signs_query (s : ByteArray) (w : World) (hs : s.size ≤ 1099511627776) : Calls Tryz.prog 188 #[.string s, .int .i64 31] w fun e w' => e = .returned (.int .i64 (queryStop s)) ∧ ∃ q : Nat, w' = w.drewN q :=
 (signs_any s 31 w hs).mono fun _ _ ⟨h, h2⟩ => ⟨by rw [h, stopF_congr (fun c h0 h1 => may_query h0 h1) s s.size 0 (by omega)]; rfl, h2⟩
end Go.Proofs.YtbnafbdhomdcoaaGreatDoor.T5
namespace Go.Proofs.YtbnafbdhomdcoaaGreatDoor.T5
open Go.RowKit Go.Shelf Go.Lib
end Go.Proofs.YtbnafbdhomdcoaaGreatDoor.T5
namespace Go.Proofs.YtbnafbdhomdcoaaGreatDoor.T5
open Go.RowKit Go.Shelf Go.Lib
def NumAt (s : ByteArray) (most base : Int) (k : Nat) (n : Int) (big : Bool) : Prop :=
 Digs base s k ∧ 0 ≤ n ∧ n ≤ most ∧ (big = false → n = numV base (s.data.toList.take k)) ∧ (big = true → most < numV base (s.data.toList.take k))
theorem NumAt.start (s : ByteArray) {most base : Int} (h : 0 ≤ most) : NumAt s most base 0 0 false := ⟨Digs.zero, Int.le_refl _, h, fun _ => rfl, fun h => by cases h⟩
section
variable {s : ByteArray} {most base n : Int} {k : Nat} (hk : k < s.size) (hb : 2 ≤ base) (h0 : 0 ≤ digV (bt s k)) (h1 : digV (bt s k) < base)
include hk hb h0 h1
theorem NumAt.big (h : NumAt s most base k n true) : NumAt s most base (k + 1) n true := by
 obtain ⟨a, b, c, _, e⟩ := h
 have e := e rfl
 have h2 := numV_at (base := base) hk
 have h3 := a.pos (by omega)
 have h4 : numV base (s.data.toList.take k) * 1 ≤ numV base (s.data.toList.take k) * base := Int.mul_le_mul_of_nonneg_left (by omega) h3
 exact ⟨a.succ hk h0 h1, b, c, fun h => by (cases h), fun _ => by omega⟩
omit hb in
theorem NumAt.over (h : NumAt s most base k n false) (ho : most < n * base + digV (bt s k)) : NumAt s most base (k + 1) n true := by
 obtain ⟨a, b, c, d, _⟩ := h
 have d := d rfl
 have h2 := numV_at (base := base) hk
 exact ⟨a.succ hk h0 h1, b, c, fun h => by (cases h), fun _ => by rw [h2, ← d]; exact ho⟩
theorem NumAt.on (h : NumAt s most base k n false) (ho : n * base + digV (bt s k) ≤ most) : NumAt s most base (k + 1) (n * base + digV (bt s k)) false := by
 obtain ⟨a, b, c, d, _⟩ := h
 have d := d rfl
 have h2 := numV_at (base := base) hk
 have h3 : 0 ≤ n * base := Int.mul_nonneg b (by omega)
 exact ⟨a.succ hk h0 h1, by omega, ho, fun _ => by rw [h2, ← d], fun h => by (cases h)⟩
end
theorem quo_gt {n most base : Int} (hb : 0 < base) (_hn : 0 ≤ n) (_hm : 0 ≤ most) : most / base < n ↔ most < n * base := by
 rw [Int.ediv_lt_iff_lt_mul hb]
set_option maxRecDepth 20000 in
set_option maxHeartbeats 2000000 in
theorem number_any (s : ByteArray) (most base : Int) (w : World) (hs : s.size ≤ 1099511627776) (hm0 : 0 ≤ most) (hm1 : most ≤ 9223372036854775807) (hb1 : 2 ≤ base) (hb2 : base ≤ 16) :
  Calls Tryz.prog 204 #[.string s, .int .i64 most, .int .i64 base] w fun e w' => e = .returned (.tuple #[.int .i64 (numR s most base).1, .int .i64 (numR s most base).2]) ∧ Below w.heap.size w w' := by
 by_cases hz : s.size = 0
 ·have he : s.toList.isEmpty = true := by rw [empty_eq]; exact decide_eq_true hz
  have HR := Lib.hid (numR_empty (most := most) (base := base) hz)
  clear hz
  go_enter Tryz.func204, Tryz.ntmps204
  go_wp2
  go_ret2
  exact ⟨by rw [HR.out]; rfl, Below.refl _ _⟩
 ·have he : s.toList.isEmpty = false := by rw [empty_eq]; exact decide_eq_false hz
  have hneg : decide (most < 0) = false := by simp; omega
  have hz' : 0 < s.size := by omega
  clear hz
  go_enter Tryz.func204, Tryz.ntmps204
  go_wp2
  go_loopw [8, 9, 18] (fun v b i wr => ∃ (k : Nat) (n : Int) (big : Bool), k ≤ s.size ∧ i = .int .i64 k ∧ v = .int .i64 n ∧ b = .bool big ∧ NumAt s most base k n big ∧ Below w.heap.size w wr) (fun _ _ i _ => s.size - (RowKit.intOf i).toNat)
  case atStart => exact ⟨0, 0, false, by omega, rfl, rfl, rfl, NumAt.start s hm0, Below.refl _ _⟩
  case round =>
   obtain ⟨k, n, big, hk, rfl, rfl, rfl, hN, hbw⟩ := hrel
   by_cases hlt : k < s.size
   ·obtain ⟨hdv, hsz1⟩ := digV_at s hlt
    have hsz0 := ext_size s (a := k) (b := k + 1) (by omega) (by omega)
    have HL := Lib.hid (fun w => Lower_any (s.extract k (k + 1)) w (by unfold maxLen; omega))
    have hbt := @bt_eq (lower (s.extract k (k + 1))) 0 hsz1
    have hr1 := bt_nonneg (lower (s.extract k (k + 1))) 0
    have hr2 := bt_lt (lower (s.extract k (k + 1))) 0
    have HI := Lib.hid (fun w => IndexByte_any hexDigits (bt (lower (s.extract k (k + 1))) 0) w hr1 hr2)
    rw [hdv] at HI
    generalize lower (s.extract k (k + 1)) = u at *
    have hn0 := hN.2.1
    have hn1 := hN.2.2.1
    have hdr := digV_range (bt s k)
    have hex : hexDigits = ⟨#[48, 49, 50, 51, 52, 53, 54, 55, 56, 57, 97, 98, 99, 100, 101, 102]⟩ := rfl
    rw [hex] at HI
    clear hdv hsz0 hex
    by_cases hd : 0 ≤ digV (bt s k) ∧ digV (bt s k) < base
    ·obtain ⟨hd0, hd1⟩ := hd
     cases big
     ·have HB := Lib.hid (hN.over hlt hd0 hd1)
      have HO := Lib.hid (hN.on hlt hb1 hd0 hd1)
      have hq := quo_gt (n := n) (most := most) (base := base) (by omega) hn0 hm0
      have hpos : 0 ≤ n * base := Int.mul_nonneg hn0 (by omega)
      clear hN
      generalize digV (bt s k) = d at *
      by_cases h1 : most < n * base
      ·have h2 := hq.2 h1
       clear hq
       go_wp2_with fail
       refine (HL.out _).mono ?_
       rintro e w1 ⟨rfl, b1⟩
       go_wp2_with fail
       refine (HI.out _).mono ?_
       rintro e w2 ⟨rfl, rfl⟩
       go_wp2
       go_roundw
       case rel => exact ⟨k + 1, n, true, by omega, by go_num, rfl, rfl, HB.out (by omega), hbw.trans (b1.mono hbw.size)⟩
       case measure => simp [RowKit.intOf]; omega
      ·have h2 : ¬ most / base < n := fun h => h1 (hq.1 h)
       clear hq
       by_cases h3 : most - d < n * base
       ·go_wp2_with fail
        refine (HL.out _).mono ?_
        rintro e w1 ⟨rfl, b1⟩
        go_wp2_with fail
        refine (HI.out _).mono ?_
        rintro e w2 ⟨rfl, rfl⟩
        go_wp2
        go_roundw
        case rel => exact ⟨k + 1, n, true, by omega, by go_num, rfl, rfl, HB.out (by omega), hbw.trans (b1.mono hbw.size)⟩
        case measure => simp [RowKit.intOf]; omega
       ·go_wp2_with fail
        refine (HL.out _).mono ?_
        rintro e w1 ⟨rfl, b1⟩
        go_wp2_with fail
        refine (HI.out _).mono ?_
        rintro e w2 ⟨rfl, rfl⟩
        go_wp2
        go_roundw
        case rel => exact ⟨k + 1, n * base + d, false, by omega, by go_num, rfl, rfl, HO.out (by omega), hbw.trans (b1.mono hbw.size)⟩
        case measure => simp [RowKit.intOf]; omega
     ·have HB := Lib.hid (hN.big hlt hb1 hd0 hd1)
      clear hN
      generalize digV (bt s k) = d at *
      go_wp2_with fail
      refine (HL.out _).mono ?_
      rintro e w1 ⟨rfl, b1⟩
      go_wp2_with fail
      refine (HI.out _).mono ?_
      rintro e w2 ⟨rfl, rfl⟩
      go_wp2
      go_roundw
      case rel => exact ⟨k + 1, n, true, by omega, by go_num, rfl, rfl, HB.out, hbw.trans (b1.mono hbw.size)⟩
      case measure => simp [RowKit.intOf]; omega
    ·have HR := Lib.hid (numR_bad (most := most) (base := base) hlt (by omega))
     clear hN
     have hd' : digV (bt s k) < 0 ∨ (0 ≤ digV (bt s k) ∧ base ≤ digV (bt s k)) := by omega
     generalize digV (bt s k) = d at *
     clear hd
     rcases hd' with hd | ⟨hd0, hd⟩
     all_goals
      go_wp2_with fail
      refine (HL.out _).mono ?_
      rintro e w1 ⟨rfl, b1⟩
      go_wp2_with fail
      refine (HI.out _).mono ?_
      rintro e w2 ⟨rfl, rfl⟩
      go_wp2
      go_ret2
      exact ⟨by rw [HR.out]; rfl, hbw.trans (b1.mono hbw.size)⟩
   ·obtain rfl : k = s.size := by omega
    obtain ⟨hN1, _, hN2, hN3, hN4⟩ := hN
    cases big
    ·have hv := hN3 rfl
     have HR := Lib.hid (numR_ok (most := most) hz' hN1 (by omega))
     rw [← hv] at HR
     clear hv hN1 hN3 hN4
     go_wp2
     go_ret2
     exact ⟨by rw [HR.out]; rfl, hbw⟩
    ·have HR := Lib.hid (numR_big (most := most) hz' hN1 (hN4 rfl))
     clear hN1 hN3 hN4
     go_wp2
     go_ret2
     exact ⟨by rw [HR.out]; rfl, hbw⟩
set_option maxRecDepth 20000 in
theorem Decimal_any (s : ByteArray) (most : Int) (w : World) (hs : s.size ≤ 1099511627776) (hm0 : 0 ≤ most) (hm1 : most ≤ 9223372036854775807) :
  Calls Tryz.prog 167 #[.string s, .int .i64 most] w fun e w' => e = .returned (.tuple #[.int .i64 (numR s most 10).1, .int .i64 (numR s most 10).2]) ∧ Below w.heap.size w w' := by
 go_enter Tryz.func167, Tryz.ntmps167
 go_wp2_with fail
 refine (number_any s most 10 w hs hm0 hm1 (by omega) (by omega)).mono ?_
 rintro e w1 ⟨rfl, b1⟩
 go_wp2
 go_ret2
 exact ⟨rfl, b1⟩
end Go.Proofs.YtbnafbdhomdcoaaGreatDoor.T5
namespace Go.Proofs.YtbnafbdhomdcoaaGreatDoor.T5
open Go.RowKit Go.Shelf Go.Lib
def byteV (b : UInt8) : Value := .int .u8 (b.toNat : Int)
theorem bytes_oneCell (l : List UInt8) : ∀ u ∈ l.map byteV, u.oneCell' = true := by
 intro u hu
 obtain ⟨b, _, rfl⟩ := List.mem_map.1 hu
 rfl
theorem info_byte : (Tryz.prog.info? 5).map (fun i => (i.zero, i.size, i.bytes)) = some (some (.int .u8 0), 1, 1) := by kernel_rfl
def OwnB (w : World) (base : Nat) (v : Value) (l : List UInt8) : Prop := w.ownsRow base 5 1 v l.length (l.map byteV)
theorem OwnB.conv {w : World} {base : Nat} {v : Value} {l : List UInt8} (h : OwnB w base v l) : (convert 80 9 v).run Tryz.prog w = .ok (.string ⟨l.toArray⟩) w := by
 obtain ⟨A, c, rfl⟩ := own_slice h
 rcases h.2 with ⟨h1, h2⟩ | ⟨g, cap, cur, h1, _⟩
 ·simp only [Value.slice.injEq] at h1
  obtain ⟨h1, h3, h4⟩ := h1
  have hl : l = [] := List.eq_nil_of_length_eq_zero h3
  subst hl
  rw [h1]
  have := run_convert_bytes_nil (P := Tryz.prog) w 80 5 Tryz.underlying80 Tryz.underlying5 0 c 9 Tryz.underlying9
  exact this
 ·simp only [Value.slice.injEq] at h1
  obtain ⟨h1, h3, h4⟩ := h1
  subst h1
  have hc := h.cells (g := g) rfl
  have hB : BytesAt w g l := ⟨fun i hi => by
   have h6 := hc i (byteV l[i]) (by rw [List.getElem?_map, List.getElem?_eq_getElem hi]; rfl)
   have e : (⟨g, 0, none⟩ : Addr).add i = ⟨g, i, none⟩ := by
    unfold Addr.add
    split
    ·rename_i h0; rw [h0]
    ·simp
   rw [e] at h6
   rw [h6, List.getD_eq_getElem?_getD, List.getElem?_eq_getElem hi]
   rfl, fun i _ => h.frozenAt i⟩
  exact hB.conv Tryz.underlying80 Tryz.underlying5 Tryz.underlying9 c
theorem pct_str : ∀ n : Nat, n < 256 → (⟨#[37]⟩ : ByteArray) ++ (⟨#[48, 49, 50, 51, 52, 53, 54, 55, 56, 57, 65, 66, 67, 68, 69, 70]⟩ : ByteArray).extract (n / 16) (n / 16 + 1) ++ (⟨#[48, 49, 50, 51, 52, 53, 54, 55, 56, 57, 65, 66, 67, 68, 69, 70]⟩ : ByteArray).extract (n % 16) (n % 16 + 1) = ⟨(pct (UInt8.ofNat n)).toArray⟩ := by decide +kernel
set_option maxRecDepth 20000 in
theorem percent_any (b : UInt8) (w : World) :
  Calls Tryz.prog 147 #[.int .u8 (b.toNat : Int)] w fun e w' => e = .returned (.string ⟨(pct b).toArray⟩) ∧ ∃ q : Nat, w' = w.drewN q := by
 have hb := b.toNat_lt
 have h1 : (b.toNat : Int) < 256 := by omega
 go_enter Tryz.func147, Tryz.ntmps147
 go_wp2_with fail
 go_quiet (fail)
 go_wp2
 go_ret
 exact ⟨ret_str (by have := pct_str b.toNat hb; rw [UInt8.ofNat_toNat] at this; exact this), _, rfl⟩
end Go.Proofs.YtbnafbdhomdcoaaGreatDoor.T5
namespace Go.Proofs.YtbnafbdhomdcoaaGreatDoor.T5
open Go.RowKit Go.Shelf Go.Lib
theorem builder_below {T e : TypeId} {B b : Nat} {bs : List Value} {w w' : World} (h : Lib.IsBuilderF T e B b bs w) (hb : Below w.heap.size w w') : Lib.IsBuilderF T e B b bs w' := by
 have one : ∀ p, Lib.BuilderAtF T e B b p bs w → Lib.BuilderAtF T e B b p bs w' := fun p hp => by
  have hlt := hp.lt
  obtain ⟨hB, v, hv, hown, hne⟩ := hp
  exact ⟨hB, v, (hb.block b hlt).trans hv, hown.kept (row := none) ⟨hb.os, hb.tape, hb.output, hb.size, fun k hk _ => hb.block k hk⟩ (by cases hv : v.ownBlock <;> simp), hne⟩
 exact h.elim (fun x => .inl (one _ x)) (fun x => .inr (one _ x))
theorem row_newc (w : World) (cs : Array Value) (t : TypeId) {n : Nat} (hn : n = w.heap.size) : Row (w.alloc (.cells cs t)) (some ⟨n, 0, none⟩) cs.toList := fun _ => by
 subst hn
 refine ⟨_, 0, rfl, by simp, fun j v hv => ?_⟩
 rw [Nat.zero_add, World.cell?_alloc_new]
 simpa using hv
theorem below_drew {B : Nat} {w w' : World} (h : Below B w w') : Below B w w'.drew := ⟨h.os, h.tape, h.output, h.size, h.block⟩
end Go.Proofs.YtbnafbdhomdcoaaGreatDoor.T5
