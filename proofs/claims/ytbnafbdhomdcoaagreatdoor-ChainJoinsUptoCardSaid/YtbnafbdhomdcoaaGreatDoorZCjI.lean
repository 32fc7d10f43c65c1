/-
 CjI, without what this claim does not reach.
-/
import Derived.Test.YtbnafbdhomdcoaaGreatDoorZm21
import Derived.Test.YtbnafbdhomdcoaaGreatDoorZCjP
namespace Go.Proofs.YtbnafbdhomdcoaaGreatDoor
open Go.RowKit Go.Shelf Go.Lib
def sepStop (s : ByteArray) : Nat := scan (fun j => !sepB (bt s j)) 0 s.size
theorem sepStop_spec (s : ByteArray) : sepStop s ≤ s.size ∧ (∀ j, j < sepStop s → sepB (bt s j) = false) ∧ (sepStop s < s.size → sepB (bt s (sepStop s)) = true) := by
 obtain ⟨_, h2, h3, h4⟩ := scan_spec (fun j => !sepB (bt s j)) s.size 0
 refine ⟨by unfold sepStop; omega, fun j hj => ?_, fun hlt => ?_⟩
 ·have := h3 j (Nat.zero_le _) hj
  simpa using this
 ·have := h4 (by unfold sepStop at hlt; omega)
  unfold sepStop
  simpa using this
theorem sepStop_at {s : ByteArray} {k : Nat} (h2 : k < s.size) (hn : ∀ j, j < k → sepB (bt s j) = false) (hb : sepB (bt s k) = true) : sepStop s = k :=
 scan_stop (fun j _ g2 => by show (!sepB (bt s j)) = true; rw [hn j g2]; rfl) (Nat.zero_le _) (by omega) (by show (!sepB (bt s k)) = false; rw [hb]; rfl)
theorem sepStop_none {s : ByteArray} (hn : ∀ j, j < s.size → sepB (bt s j) = false) : sepStop s = s.size := by
 have := scan_all (P := fun j => !sepB (bt s j)) (a := 0) (n := s.size) (fun j _ g2 => by show (!sepB (bt s j)) = true; rw [hn j (by omega)]; rfl)
 unfold sepStop
 rw [this]
 omega
def sepAt (s : ByteArray) : Int := if sepStop s < s.size then (sepStop s : Int) else -1
theorem sepAt_all (s : ByteArray) : decide (0 ≤ sepAt s) = !allB (fun c => !sepB c) s := by
 obtain ⟨_, h2, h3⟩ := sepStop_spec s
 unfold sepAt
 by_cases h : sepStop s < s.size
 ·rw [if_pos h, decide_eq_true (by omega), allB_false h (by rw [h3 h]; rfl)]; rfl
 ·rw [if_neg h, decide_eq_false (by omega), allB_true (fun j hj => by rw [h2 j (by omega)]; rfl)]; rfl
def three : ByteArray := ⟨#[32, 9, 44]⟩
set_option maxRecDepth 100000 in
set_option maxHeartbeats 4000000 in
theorem IndexRune_err (w : World) :
  Calls Tryz.prog 193 #[.string ⟨#[32, 9, 44]⟩, .int .i32 65533] w fun e w' => e = .returned (.int .i64 (-1)) ∧ Below w.heap.size w w' := by
 have n0 := fun ty => run_next_ascii (P := Tryz.prog) w three 0 ty (by decide) (by decide)
 have n1 := fun ty => run_next_ascii (P := Tryz.prog) w three 1 ty (by decide) (by decide)
 have n2 := fun ty => run_next_ascii (P := Tryz.prog) w three 2 ty (by decide) (by decide)
 have n3 := fun ty => run_next_end (P := Tryz.prog) w three 3 ty (by decide)
 unfold three at n0 n1 n2 n3
 go_enter Tryz.func193, Tryz.ntmps193
 go_wp2
 go_loopg [5, 6] 3 (fun g _ _ wx => ∃ i : Nat, i + g = 3 ∧ wx = w.iter ⟨#[32, 9, 44]⟩ i)
 case atStart => exact ⟨0, by omega, rfl⟩
 case round =>
  obtain ⟨i, hig, rfl⟩ := hrel
  have hcase : (gk = 0 ∧ i = 3) ∨ (gk = 1 ∧ i = 2) ∨ (gk = 2 ∧ i = 1) ∨ (gk = 3 ∧ i = 0) := by omega
  rcases hcase with ⟨rfl, rfl⟩ | ⟨rfl, rfl⟩ | ⟨rfl, rfl⟩ | ⟨rfl, rfl⟩
  ·go_wp2
   go_ret
   exact ⟨rfl, (Below.refl _ w).alloc (Nat.le_refl _) _⟩
  ·go_wp2
   go_roundg 0
   case measure => omega
   case rel => exact ⟨3, by omega, rfl⟩
  ·go_wp2
   go_roundg 1
   case measure => omega
   case rel => exact ⟨2, by omega, rfl⟩
  ·go_wp2
   go_roundg 2
   case measure => omega
   case rel => exact ⟨1, by omega, rfl⟩
set_option maxRecDepth 100000 in
set_option maxHeartbeats 4000000 in
theorem IndexRune_bad (r : Int) (w : World) (h1 : 128 ≤ r) (hr : r ≤ 2147483647) (he : ¬ r = 65533) (hv : Lib.validRune r = false) :
  Calls Tryz.prog 193 #[.string ⟨#[32, 9, 44]⟩, .int .i32 r] w fun e w' => e = .returned (.int .i64 (-1)) ∧ Below w.heap.size w w' := by
 have hne : (r == 65533) = false := beq_eq_false_iff_ne.2 he
 have HV := Lib.hid (fun w => Tryz.utf8_ValidRune r w)
 rw [hv] at HV
 clear he hv
 go_enter Tryz.func193, Tryz.ntmps193
 go_wp2_with fail
 refine (HV.out _).mono ?_
 rintro e w' ⟨rfl, rfl⟩
 go_wp2
 go_ret
 exact ⟨rfl, Below.refl _ _⟩
theorem last_none {b : Int} (h : 128 ≤ b) : findB (ByteArray.extract ⟨#[32, 9, 44]⟩ (1 + 1) (ByteArray.size ⟨#[32, 9, 44]⟩)) b = -1 := by
 refine findB_none fun j _ hj => ?_
 have e : j = 0 := by
  have : (ByteArray.extract ⟨#[32, 9, 44]⟩ (1 + 1) (ByteArray.size ⟨#[32, 9, 44]⟩)).size = 1 := rfl
  omega
 subst e
 have : bt (ByteArray.extract ⟨#[32, 9, 44]⟩ (1 + 1) (ByteArray.size ⟨#[32, 9, 44]⟩)) 0 = 44 := rfl
 show (!decide (_ = b)) = true
 rw [this, decide_eq_false (by omega)]; rfl
set_option maxRecDepth 100000 in
set_option maxHeartbeats 4000000 in
theorem IndexRune_ok (r : Int) (w : World) (h1 : 128 ≤ r) (hr : r ≤ 2147483647) (he : ¬ r = 65533) (hv : Lib.validRune r = true) :
  Calls Tryz.prog 193 #[.string ⟨#[32, 9, 44]⟩, .int .i32 r] w fun e w' => e = .returned (.int .i64 (-1)) ∧ Below w.heap.size w w' := by
 have hne : (r == 65533) = false := beq_eq_false_iff_ne.2 he
 have HV := Lib.hid (fun w => Tryz.utf8_ValidRune r w)
 have hvv : Utf8.valid r = true := by rw [Go.validRune_eq]; exact hv
 rw [hv] at HV
 obtain ⟨f1, f2, f3⟩ := encode_facts r hvv h1
 have hcv : (convert 21 9 (.int .i32 r)).run Tryz.prog w = .ok (.string (Utf8.encode r)) w := run_convert_int_string w _ _ _ _ (by kernel_rfl) Tryz.underlying9
 generalize Utf8.encode r = u at *
 have f3 := f3 (by omega)
 clear he hv hvv
 have hz : u.size = 2 ∨ u.size = 3 ∨ 3 < u.size := by omega
 rcases hz with hz | hz | hz
 ·have hb1 : ((u[1]'(by omega)).toNat : Int) = bt u 1 := bt_eq (by omega)
  have hb128 : 128 ≤ bt u 1 := by
   rw [← hb1]
   have e : u.size - 1 = 1 := by omega
   simp only [e] at f3
   omega
  obtain ⟨two, htwo⟩ : ∃ t : ByteArray, t = ⟨#[32, 9, 44]⟩ := ⟨_, rfl⟩
  have hsz : two.size = 3 := by rw [htwo]; rfl
  have h1z : 1 < two.size := by omega
  obtain ⟨k, hk1⟩ : ∃ k : Nat, k = 1 := ⟨_, rfl⟩
  have hkz : k < two.size := by omega
  have hq : (((two[k]'hkz).toNat : Nat) : Int) = 9 := by
   rw [bt_eq hkz, htwo, hk1]; rfl
  have hne63 : ((9 : Int) != bt u 1) = true := by rw [bne_iff_ne]; omega
  have hkn : k + 1 ≤ two.size := by omega
  have hki : (k : Int) + 1 ≤ (two.size : Int) := by omega
  have hk0 : (0 : Int) ≤ (k : Int) + 1 := by omega
  have hkt : ((k : Int) + 1).toNat = k + 1 := by omega
  have hkw : IntKind.i64.wrap ((k : Int) + 1) = (k : Int) + 1 := IntWalk.i64_in _ (by omega)
  have hlt : (k : Int) < (two.size : Int) := by omega
  clear f3
  have HI := Lib.hid (fun w => (IndexByte_any (ByteArray.extract two (k + 1) two.size) (bt u 1) w (bt_nonneg u 1) (bt_lt u 1)).mono (R' := fun e w' => e = .returned (.int .i64 (-1)) ∧ w = w') fun _ _ ⟨he, hw⟩ => ⟨by rw [he, htwo, hk1, last_none hb128], hw⟩)
  rw [← htwo]
  have HK := Lib.hid hk1
  clear htwo hsz hk1
  go_enter Tryz.func193, Tryz.ntmps193
  go_wp2_with fail
  refine (HV.out _).mono ?_
  rintro e w' ⟨rfl, rfl⟩
  go_wp2
  go_step3
  go_wp2
  go_loopg [9] 0 (fun _ x wx => x = .int .i64 k ∧ wx = w')
  case atStart => exact ⟨by rw [HK.out]; rfl, rfl⟩
  case round =>
   obtain ⟨rfl, rfl⟩ := hrel
   go_wp2
   go_step3
   go_wp2_with fail
   go_region_held3 (fun _ => True) (trivial) (first | (go_at_call 101; (with_reducible refine (HI.out _).mono ?_); rintro e w2 ⟨rfl, rfl⟩))
   all_goals
    go_wp2
    go_region_held3 (fun _ => True) (trivial) (first | (go_at_call 101; (with_reducible refine (HI.out _).mono ?_); rintro e w2 ⟨rfl, rfl⟩))
    all_goals
     go_wp2
     rw [Exit.noGoto_ret]
     go_wp2
     try rw [Exit.noGoto_ret]
     go_ret
     exact ⟨rfl, below_drew (below_drew (Below.refl _ _))⟩
 ·have hb1 : ((u[2]'(by omega)).toNat : Int) = bt u 2 := bt_eq (by omega)
  have hb128 : 128 ≤ bt u 2 := by
   rw [← hb1]
   have e : u.size - 1 = 2 := by omega
   simp only [e] at f3
   omega
  obtain ⟨two, htwo⟩ : ∃ t : ByteArray, t = ⟨#[32, 9, 44]⟩ := ⟨_, rfl⟩
  have hsz : two.size = 3 := by rw [htwo]; rfl
  have h1z : 2 < two.size := by omega
  obtain ⟨k, hk1⟩ : ∃ k : Nat, k = 2 := ⟨_, rfl⟩
  have hkz : k < two.size := by omega
  have hq : (((two[k]'hkz).toNat : Nat) : Int) = 44 := by
   rw [bt_eq hkz, htwo, hk1]; rfl
  have hne63 : ((44 : Int) != bt u 2) = true := by rw [bne_iff_ne]; omega
  have hkn : k + 1 ≤ two.size := by omega
  have hki : (k : Int) + 1 ≤ (two.size : Int) := by omega
  have hk0 : (0 : Int) ≤ (k : Int) + 1 := by omega
  have hkt : ((k : Int) + 1).toNat = k + 1 := by omega
  have hkw : IntKind.i64.wrap ((k : Int) + 1) = (k : Int) + 1 := IntWalk.i64_in _ (by omega)
  have hlt : (k : Int) < (two.size : Int) := by omega
  clear f3
  have HI := Lib.hid (fun w => (IndexByte_any (ByteArray.extract two (k + 1) two.size) (bt u 2) w (bt_nonneg u 2) (bt_lt u 2)).mono (R' := fun e w' => e = .returned (.int .i64 (-1)) ∧ w = w') fun _ _ ⟨he, hw⟩ => ⟨by rw [he, htwo, hk1]; rfl, hw⟩)
  rw [← htwo]
  have HK := Lib.hid hk1
  clear htwo hsz hk1
  go_enter Tryz.func193, Tryz.ntmps193
  go_wp2_with fail
  refine (HV.out _).mono ?_
  rintro e w' ⟨rfl, rfl⟩
  go_wp2
  go_step3
  go_wp2
  go_loopg [9] 0 (fun _ x wx => x = .int .i64 k ∧ wx = w')
  case atStart => exact ⟨by rw [HK.out]; rfl, rfl⟩
  case round =>
   obtain ⟨rfl, rfl⟩ := hrel
   go_wp2
   go_step3
   go_wp2_with fail
   go_region_held3 (fun _ => True) (trivial) (first | (go_at_call 101; (with_reducible refine (HI.out _).mono ?_); rintro e w2 ⟨rfl, rfl⟩))
   all_goals
    go_wp2
    go_region_held3 (fun _ => True) (trivial) (first | (go_at_call 101; (with_reducible refine (HI.out _).mono ?_); rintro e w2 ⟨rfl, rfl⟩))
    all_goals
     go_wp2
     rw [Exit.noGoto_ret]
     go_wp2
     try rw [Exit.noGoto_ret]
     go_ret
     exact ⟨rfl, below_drew (below_drew (Below.refl _ _))⟩
 ·have hl : ((u.size : Int) - 1).toNat = u.size - 1 := by omega
  have hn2 : ¬ (u.size : Int) - 1 < 3 := by omega
  go_enter Tryz.func193, Tryz.ntmps193
  go_wp2_with fail
  refine (HV.out _).mono ?_
  rintro e w' ⟨rfl, rfl⟩
  go_wp2
  go_step3
  go_wp2
  go_loopg [9] 0 (fun _ x wx => x = .int .i64 ((u.size : Int) - 1) ∧ wx = w')
  case atStart => exact ⟨rfl, rfl⟩
  case round =>
   obtain ⟨rfl, rfl⟩ := hrel
   go_wp2
   rw [Exit.noGoto_ret]; go_ret
   exact ⟨rfl, Below.refl _ _⟩
theorem IndexRune_low (b : Int) (w : World) (h0 : 0 ≤ b) (h1 : b < 128) :
  Calls Tryz.prog 193 #[.string ⟨#[32, 9, 44]⟩, .int .i32 b] w fun e w' => e = .returned (.int .i64 (findB ⟨#[32, 9, 44]⟩ b)) ∧ Below w.heap.size w w' := 
 (Tryz.strings_IndexRune_ascii _ b w h0 h1).mono fun _ _ ⟨he, hw⟩ => ⟨by rw [he, indexByte_eq _ b h0 (by omega)], by rw [hw]; exact Below.refl _ _⟩
def twoAt (r : Int) : Int := if r = 32 then 0 else if r = 9 then 1 else if r = 44 then 2 else -1
theorem IndexRune_two (r : Int) (w : World) (h0 : 0 ≤ r) (hr : r ≤ 2147483647) :
  Calls Tryz.prog 193 #[.string ⟨#[32, 9, 44]⟩, .int .i32 r] w fun e w' => e = .returned (.int .i64 (twoAt r)) ∧ Below w.heap.size w w' := by
 by_cases h : r < 128
 ·refine (IndexRune_low r w h0 h).mono ?_
  rintro e w' ⟨rfl, hb⟩
  refine ⟨?_, hb⟩
  have key : ∀ k : Fin 128, findB ⟨#[32, 9, 44]⟩ ((k.1 : Nat) : Int) = twoAt ((k.1 : Nat) : Int) := by decide +kernel
  have := key ⟨r.toNat, by omega⟩
  rw [show ((r.toNat : Nat) : Int) = r by omega] at this
  rw [this]
 ·have e : twoAt r = -1 := by unfold twoAt; rw [if_neg (by omega), if_neg (by omega), if_neg (by omega)]
  rw [e]
  by_cases he : r = 65533
  ·rw [he]; exact IndexRune_err w
  ·cases hv : Lib.validRune r
   ·exact IndexRune_bad r w (by omega) hr he hv
   ·exact IndexRune_ok r w (by omega) hr he hv
set_option maxRecDepth 100000 in
set_option maxHeartbeats 4000000 in
theorem IndexAny_short (s : ByteArray) (w : World) (h8 : s.size ≤ 8) :
  Calls Tryz.prog 152 #[.string s, .string ⟨#[32, 9, 44]⟩] w fun e w' => e = .returned (.int .i64 (sepAt s)) ∧ Below w.heap.size w w' := by
 have HT := Lib.hid (fun r w => IndexRune_two r w)
 have h8' : decide ((8 : Int) < (s.size : Int)) = false := decide_eq_false (by omega)
 have HA := Lib.hid (fun w => Tryz.strings_shouldUseASCIISet s.size w)
 rw [h8'] at HA
 clear h8' h8
 go_enter Tryz.func152, Tryz.ntmps152
 go_wp2_with fail
 refine (HA.out _).mono ?_
 rintro e w' ⟨rfl, rfl⟩
 go_wp2
 go_loopg [9, 10] s.size (fun g _ _ wx => ∃ i : Nat, i + g = s.size ∧ wx.heap[w'.heap.size]? = some (.stringIter s i) ∧ Below w'.heap.size w' wx ∧ ∀ j, j < i → sepB (bt s j) = false)
 case atStart => exact ⟨0, by omega, w'.iter_heap s 0, (Below.refl _ _).alloc (Nat.le_refl _) _, by omega⟩
 case round =>
  obtain ⟨i, hig, hk, hbw, hno⟩ := hrel
  have HN := Lib.hid hno
  clear hno
  by_cases hi : i < s.size
  ·have hnx := fun ty => run_next_any_at (P := Tryz.prog) wr w'.heap.size s i ty hk hi
   have hk' := iterAt_heap wr w'.heap.size s i (i + (Utf8.decode s i).2) hk
   have hb' := below_iterAt hbw (Nat.le_refl _) s (i + (Utf8.decode s i).2)
   have hr1 := decode_le s i
   have HC := Lib.hid (T5.dec_cases s i hi)
   generalize hr : (Utf8.decode s i).1 = r at *
   generalize hn : (Utf8.decode s i).2 = n at *
   generalize wr.iterAt w'.heap.size s (i + n) = w1 at *
   have HT' := Lib.hid (fun w => HT.out r w (by omega) (by omega))
   clear HT hk hbw hr hn
   rcases HC.out with ⟨c1, c2, c3⟩ | ⟨c1, c2, c3⟩
   ·subst c3
    by_cases hx : sepB (bt s i) = true
    ·have e : 0 ≤ twoAt r := by
      have := hx
      simp only [sepB, Bool.or_eq_true, decide_eq_true_eq] at this
      unfold twoAt
      omega
     have ea : sepAt s = i := by
      have := sepStop_at (s := s) (k := i) hi HN.out hx
      unfold sepAt
      rw [this, if_pos hi]
     clear c1 c2 HC
     generalize twoAt r = x at *
     go_wp2_with fail
     refine (HT'.out _).mono ?_
     rintro e w2 ⟨rfl, b2⟩
     go_wp2
     go_ret
     exact ⟨by rw [ea]; rfl, hb'.trans (b2.mono hb'.size)⟩
    ·have e : twoAt r = -1 := by
      have := hx
      simp only [sepB, Bool.or_eq_true, decide_eq_true_eq] at this
      unfold twoAt
      omega
     have hno' : ∀ j, j < i + 1 → sepB (bt s j) = false := by
      intro j g2
      by_cases g : j < i
      ·exact HN.out j g
      ·obtain rfl : j = i := by omega
       exact Bool.eq_false_iff.2 hx
     have HN' := Lib.hid hno'
     rw [e] at HT'
     clear hno' c1 c2 HC e
     go_wp2_with fail
     refine (HT'.out _).mono ?_
     rintro e w2 ⟨rfl, b2⟩
     go_wp2
     go_roundg (s.size - (i + 1))
     case measure => omega
     case rel => exact ⟨i + 1, by omega, by rw [b2.block _ (by have := (Array.getElem?_eq_some_iff.1 hk').1; omega)]; exact hk', hb'.trans (b2.mono hb'.size), HN'.out⟩
   ·have e : twoAt r = -1 := by unfold twoAt; omega
    have hno' : ∀ j, j < i + n → sepB (bt s j) = false := by
     intro j g2
     by_cases g : j < i
     ·exact HN.out j g
     ·have := c3 j (by omega) g2
      unfold sepB
      rw [decide_eq_false (by omega), decide_eq_false (by omega), decide_eq_false (by omega)]; rfl
    have hle : i + n ≤ s.size := by
     by_cases g : s.size < i + n
     ·have := c3 s.size (by omega) g
      rw [T5.bt_out s (Nat.le_refl _)] at this
      omega
     ·omega
    have HN' := Lib.hid hno'
    rw [e] at HT'
    clear hno' c1 c3 HC e
    go_wp2_with fail
    refine (HT'.out _).mono ?_
    rintro e w2 ⟨rfl, b2⟩
    go_wp2
    go_roundg (s.size - (i + n))
    case measure => omega
    case rel => exact ⟨i + n, by omega, by rw [b2.block _ (by have := (Array.getElem?_eq_some_iff.1 hk').1; omega)]; exact hk', hb'.trans (b2.mono hb'.size), HN'.out⟩
  ·have hnx := fun ty => run_next_end_at (P := Tryz.prog) wr w'.heap.size s i ty hk hi
   go_wp2
   go_ret
   have : sepStop s = s.size := sepStop_none (fun j g2 => HN.out j (by omega))
   exact ⟨by unfold sepAt; rw [this, if_neg (by omega)]; rfl, hbw⟩
theorem sepAt_list (s : ByteArray) : Lib.indexAny s.data.toList [32, 9, 44] = sepAt s := by
 have hc : ∀ b : UInt8, ([32, 9, 44] : List UInt8).contains b = sepB (b.toNat : Int) := by
  intro b
  have h : ∀ k : Fin 256, ([32, 9, 44] : List UInt8).contains (UInt8.ofNat k.val) = sepB ((UInt8.ofNat k.val).toNat : Int) := by decide +kernel
  have := h ⟨b.toNat, b.toNat_lt⟩
  simpa using this
 have hb : ∀ j (h : j < s.size) b, s.data.toList[j]? = some b → bt s j = b.toNat := by
  intro j h b e
  unfold bt
  rw [List.getD_eq_getElem?_getD, e]
  rfl
 obtain ⟨h2, h3, h4⟩ := sepStop_spec s
 have hno : Lib.NoAny s.data.toList [32, 9, 44] (sepStop s) := by
  intro j b hj hjb
  have := h3 j hj
  rw [hb j (by omega) b hjb] at this
  rw [hc, this]
 unfold sepAt
 by_cases h : sepStop s < s.size
 ·rw [if_pos h]
  have hx : s.data.toList[sepStop s]? = some (s[sepStop s]'h) := Lib.data_getElem? s _ h
  refine Lib.indexAny_hit hno hx ?_
  have := h4 h
  rw [hb _ h _ hx] at this
  rw [hc, this]
 ·rw [if_neg h]
  refine Lib.indexAny_none ?_
  rw [← Lib.size_eq, show s.size = sepStop s by omega]
  exact hno
theorem IndexAny_any (s : ByteArray) (w : World) (hs : s.size ≤ 4194304) :
  Calls Tryz.prog 152 #[.string s, .string ⟨#[32, 9, 44]⟩] w fun e w' => e = .returned (.int .i64 (sepAt s)) ∧ Below w.heap.size w w' := by
 by_cases h8 : s.size ≤ 8
 ·exact IndexAny_short s w h8
 ·refine (Tryz.strings_IndexAny_long T5.zero102 s ⟨#[32, 9, 44]⟩ w (by show 2 ≤ 3; omega) (by omega) (by omega) (by show 3 < 4294967281; omega) ?_).mono ?_
  ·intro j b hj
   have : b ∈ ([32, 9, 44] : List UInt8) := List.mem_of_getElem? hj
   simp at this
   rcases this with rfl | rfl | rfl <;> decide
  ·rintro e w' ⟨rfl, rfl⟩
   exact ⟨by rw [show (⟨#[32, 9, 44]⟩ : ByteArray).data.toList = [32, 9, 44] from rfl, sepAt_list], ((Below.refl _ _).alloc (Nat.le_refl _) _).alloc (by simp) _⟩
set_option maxRecDepth 20000 in
theorem ContainsAny_any (s : ByteArray) (w : World) (hs : s.size ≤ 4194304) :
  Calls Tryz.prog 109 #[.string s, .string ⟨#[32, 9, 44]⟩] w fun e w' => e = .returned (.bool (!allB (fun c => !sepB c) s)) ∧ Below w.heap.size w w' := by
 have HI := Lib.hid (fun w => IndexAny_any s w hs)
 have HE := Lib.hid (sepAt_all s)
 generalize sepAt s = x at *
 go_enter Tryz.func109, Tryz.ntmps109
 go_wp2_with fail
 refine (HI.out _).mono ?_
 rintro e w1 ⟨rfl, b1⟩
 go_wp2
 go_ret
 exact ⟨ret_bool HE.out, b1⟩
end Go.Proofs.YtbnafbdhomdcoaaGreatDoor
