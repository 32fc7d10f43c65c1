/-
  Decimal numbers: the walks of number, Decimal (program) and decimal (reference).
-/
import Derived.Test.YtamagbdkcfmfmaaDoorRoct
import Derived.Test.YtamagbdkcfmfmaaDoorMean
namespace Go.Proofs.YtamagbdkcfmfmaaDoor
open Go.RowKit Go.Shelf Go.Lib

/-- How the reading of a number stands: k bytes read, the number so far, whether it is too great. -/
def NumAt (s : ByteArray) (most base : Int) (k : Nat) (n : Int) (big : Bool) : Prop :=
  Digs base s k ∧ 0 ≤ n ∧ n ≤ most ∧ (big = false → n = numV base (s.data.toList.take k)) ∧ (big = true → most < numV base (s.data.toList.take k))
theorem NumAt.start (s : ByteArray) {most base : Int} (h : 0 ≤ most) : NumAt s most base 0 0 false := ⟨Digs.zero, Int.le_refl _, h, fun _ => rfl, fun h => by cases h⟩
section
variable {s : ByteArray} {most base n : Int} {k : Nat} (hk : k < s.size) (hb : 2 ≤ base) (h0 : 0 ≤ digV (bt s k)) (h1 : digV (bt s k) < base)
include hk hb h0 h1
theorem NumAt.big (h : NumAt s most base k n true) : NumAt s most base (k + 1) n true := by
  obtain ⟨a, b, c, _, e⟩ := h
  have e := e rfl
  have h2 := numV_at (base := base) hk
  have h3 := a.pos (by omega)
  have h4 : numV base (s.data.toList.take k) * 1 ≤ numV base (s.data.toList.take k) * base := Int.mul_le_mul_of_nonneg_left (by omega) h3
  exact ⟨a.succ hk h0 h1, b, c, fun h => by (cases h), fun _ => by omega⟩
omit hb in
theorem NumAt.over (h : NumAt s most base k n false) (ho : most < n * base + digV (bt s k)) : NumAt s most base (k + 1) n true := by
  obtain ⟨a, b, c, d, _⟩ := h
  have d := d rfl
  have h2 := numV_at (base := base) hk
  exact ⟨a.succ hk h0 h1, b, c, fun h => by (cases h), fun _ => by rw [h2, ← d]; exact ho⟩
theorem NumAt.on (h : NumAt s most base k n false) (ho : n * base + digV (bt s k) ≤ most) : NumAt s most base (k + 1) (n * base + digV (bt s k)) false := by
  obtain ⟨a, b, c, d, _⟩ := h
  have d := d rfl
  have h2 := numV_at (base := base) hk
  have h3 : 0 ≤ n * base := Int.mul_nonneg b (by omega)
  exact ⟨a.succ hk h0 h1, by omega, ho, fun _ => by rw [h2, ← d], fun h => by (cases h)⟩
end
theorem quo_gt {n most base : Int} (hb : 0 < base) (_hn : 0 ≤ n) (_hm : 0 ≤ most) : most / base < n ↔ most < n * base := by
  rw [Int.ediv_lt_iff_lt_mul hb]

set_option maxRecDepth 20000 in
set_option maxHeartbeats 2000000 in
theorem number_any (s : ByteArray) (most base : Int) (w : World) (hs : s.size ≤ 1099511627776) (hm0 : 0 ≤ most) (hm1 : most ≤ 9223372036854775807) (hb1 : 2 ≤ base) (hb2 : base ≤ 16) :
    Calls Tryd.prog 115 #[.string s, .int .i64 most, .int .i64 base] w fun e w' => e = .returned (.tuple #[.int .i64 (numR s most base).1, .int .i64 (numR s most base).2]) ∧ Below w.heap.size w w' := by
  by_cases hz : s.size = 0
  · have he : s.toList.isEmpty = true := by rw [empty_eq]; exact decide_eq_true hz
    have HR := Lib.hid (numR_empty (most := most) (base := base) hz)
    clear hz
    go_enter Tryd.func115, Tryd.ntmps115
    go_wp2
    go_ret2
    exact ⟨by rw [HR.out]; rfl, Below.refl _ _⟩
  · have he : s.toList.isEmpty = false := by rw [empty_eq]; exact decide_eq_false hz
    have hneg : decide (most < 0) = false := by simp; omega
    have hz' : 0 < s.size := by omega
    clear hz
    go_enter Tryd.func115, Tryd.ntmps115
    go_wp2
    go_loopw [8, 9, 18] (fun v b i wr => ∃ (k : Nat) (n : Int) (big : Bool), k ≤ s.size ∧ i = .int .i64 k ∧ v = .int .i64 n ∧ b = .bool big ∧ NumAt s most base k n big ∧ Below w.heap.size w wr) (fun _ _ i _ => s.size - (RowKit.intOf i).toNat)
    case atStart => exact ⟨0, 0, false, by omega, rfl, rfl, rfl, NumAt.start s hm0, Below.refl _ _⟩
    case round =>
      obtain ⟨k, n, big, hk, rfl, rfl, rfl, hN, hbw⟩ := hrel
      by_cases hlt : k < s.size
      · obtain ⟨hdv, hsz1⟩ := digV_at s hlt
        have hsz0 := ext_size s (a := k) (b := k + 1) (by omega) (by omega)
        have HL := Lib.hid (fun w => Lower_any (s.extract k (k + 1)) w (by unfold maxLen; omega))
        have hbt := @bt_eq (lower (s.extract k (k + 1))) 0 hsz1
        have hr1 := bt_nonneg (lower (s.extract k (k + 1))) 0
        have hr2 := bt_lt (lower (s.extract k (k + 1))) 0
        have HI := Lib.hid (fun w => IndexByte_any hexDigits (bt (lower (s.extract k (k + 1))) 0) w hr1 hr2)
        rw [hdv] at HI
        generalize lower (s.extract k (k + 1)) = u at *
        have hn0 := hN.2.1
        have hn1 := hN.2.2.1
        have hdr := digV_range (bt s k)
        have hex : hexDigits = ⟨#[48, 49, 50, 51, 52, 53, 54, 55, 56, 57, 97, 98, 99, 100, 101, 102]⟩ := rfl
        rw [hex] at HI
        clear hdv hsz0 hex
        by_cases hd : 0 ≤ digV (bt s k) ∧ digV (bt s k) < base
        · obtain ⟨hd0, hd1⟩ := hd
          cases big
          · have HB := Lib.hid (hN.over hlt hd0 hd1)
            have HO := Lib.hid (hN.on hlt hb1 hd0 hd1)
            have hq := quo_gt (n := n) (most := most) (base := base) (by omega) hn0 hm0
            have hpos : 0 ≤ n * base := Int.mul_nonneg hn0 (by omega)
            clear hN
            generalize digV (bt s k) = d at *
            by_cases h1 : most < n * base
            · have h2 := hq.2 h1
              clear hq
              go_wp2_with fail
              refine (HL.out _).mono ?_
              rintro e w1 ⟨rfl, b1⟩
              go_wp2_with fail
              refine (HI.out _).mono ?_
              rintro e w2 ⟨rfl, rfl⟩
              go_wp2
              go_roundw
              case rel => exact ⟨k + 1, n, true, by omega, by go_num, rfl, rfl, HB.out (by omega), hbw.trans (b1.mono hbw.size)⟩
              case measure => simp [RowKit.intOf]; omega
            · have h2 : ¬ most / base < n := fun h => h1 (hq.1 h)
              clear hq
              by_cases h3 : most - d < n * base
              · go_wp2_with fail
                refine (HL.out _).mono ?_
                rintro e w1 ⟨rfl, b1⟩
                go_wp2_with fail
                refine (HI.out _).mono ?_
                rintro e w2 ⟨rfl, rfl⟩
                go_wp2
                go_roundw
                case rel => exact ⟨k + 1, n, true, by omega, by go_num, rfl, rfl, HB.out (by omega), hbw.trans (b1.mono hbw.size)⟩
                case measure => simp [RowKit.intOf]; omega
              · go_wp2_with fail
                refine (HL.out _).mono ?_
                rintro e w1 ⟨rfl, b1⟩
                go_wp2_with fail
                refine (HI.out _).mono ?_
                rintro e w2 ⟨rfl, rfl⟩
                go_wp2
                go_roundw
                case rel => exact ⟨k + 1, n * base + d, false, by omega, by go_num, rfl, rfl, HO.out (by omega), hbw.trans (b1.mono hbw.size)⟩
                case measure => simp [RowKit.intOf]; omega
          · have HB := Lib.hid (hN.big hlt hb1 hd0 hd1)
            clear hN
            generalize digV (bt s k) = d at *
            go_wp2_with fail
            refine (HL.out _).mono ?_
            rintro e w1 ⟨rfl, b1⟩
            go_wp2_with fail
            refine (HI.out _).mono ?_
            rintro e w2 ⟨rfl, rfl⟩
            go_wp2
            go_roundw
            case rel => exact ⟨k + 1, n, true, by omega, by go_num, rfl, rfl, HB.out, hbw.trans (b1.mono hbw.size)⟩
            case measure => simp [RowKit.intOf]; omega
        · have HR := Lib.hid (numR_bad (most := most) (base := base) hlt (by omega))
          clear hN
          have hd' : digV (bt s k) < 0 ∨ (0 ≤ digV (bt s k) ∧ base ≤ digV (bt s k)) := by omega
          generalize digV (bt s k) = d at *
          clear hd
          rcases hd' with hd | ⟨hd0, hd⟩
          all_goals
            go_wp2_with fail
            refine (HL.out _).mono ?_
            rintro e w1 ⟨rfl, b1⟩
            go_wp2_with fail
            refine (HI.out _).mono ?_
            rintro e w2 ⟨rfl, rfl⟩
            go_wp2
            go_ret2
            exact ⟨by rw [HR.out]; rfl, hbw.trans (b1.mono hbw.size)⟩
      · obtain rfl : k = s.size := by omega
        obtain ⟨hN1, _, hN2, hN3, hN4⟩ := hN
        cases big
        · have hv := hN3 rfl
          have HR := Lib.hid (numR_ok (most := most) hz' hN1 (by omega))
          rw [← hv] at HR
          clear hv hN1 hN3 hN4
          go_wp2
          go_ret2
          exact ⟨by rw [HR.out]; rfl, hbw⟩
        · have HR := Lib.hid (numR_big (most := most) hz' hN1 (hN4 rfl))
          clear hN1 hN3 hN4
          go_wp2
          go_ret2
          exact ⟨by rw [HR.out]; rfl, hbw⟩

set_option maxRecDepth 20000 in
theorem Decimal_any (s : ByteArray) (most : Int) (w : World) (hs : s.size ≤ 1099511627776) (hm0 : 0 ≤ most) (hm1 : most ≤ 9223372036854775807) :
    Calls Tryd.prog 99 #[.string s, .int .i64 most] w fun e w' => e = .returned (.tuple #[.int .i64 (numR s most 10).1, .int .i64 (numR s most 10).2]) ∧ Below w.heap.size w w' := by
  go_enter Tryd.func99, Tryd.ntmps99
  go_wp2_with fail
  refine (number_any s most 10 w hs hm0 hm1 (by omega) (by omega)).mono ?_
  rintro e w1 ⟨rfl, b1⟩
  go_wp2
  go_ret2
  exact ⟨rfl, b1⟩

/-- How the reference's reading stands. -/
def DecAt (s : ByteArray) (k : Nat) (n : Int) : Prop :=
  Digs 10 s k ∧ 0 ≤ n ∧ n ≤ 10995116277770 ∧ ((n ≤ 1099511627776 ∧ n = numV 10 (s.data.toList.take k)) ∨ (1099511627776 < n ∧ 1099511627776 < numV 10 (s.data.toList.take k)))
set_option maxRecDepth 20000 in
set_option maxHeartbeats 1000000 in
theorem rdecimal_any (s : ByteArray) (w : World) (hs : s.size ≤ 1099511627776) :
    Calls Tryd.prog 100 #[.string s] w fun e w' => e = .returned (.int .i64 (decV s)) ∧ w = w' := by
  go_enter Tryd.func100, Tryd.ntmps100
  go_wp2
  go_loop [3, 4] (fun v i => ∃ (k : Nat) (n : Int), k ≤ s.size ∧ i = .int .i64 k ∧ v = .int .i64 n ∧ DecAt s k n) (fun _ i => s.size - (RowKit.intOf i).toNat)
  case atStart => exact ⟨0, 0, by omega, rfl, rfl, Digs.zero, by omega, by omega, .inl ⟨by omega, rfl⟩⟩
  case round =>
    obtain ⟨k, n, hk, rfl, rfl, hD, hn0, hn1, hn2⟩ := hrel
    have HN2 := Lib.hid hn2
    clear hn2
    by_cases hlt : k < s.size
    · have hb := @bt_eq s k hlt
      by_cases hd : 48 ≤ bt s k ∧ bt s k ≤ 57
      · have hdv := digV_val hd
        have hdd := digV_dec.2 hd
        have hD2 := hD.succ hlt hdd.1 hdd.2
        have hnv := numV_at (base := 10) hlt
        have hpos := hD.pos (by omega)
        rw [hdv] at hnv
        have HV := Lib.hid hnv
        clear hnv hdv hdd
        obtain ⟨hd0, hd1⟩ := hd
        by_cases hbig : n ≤ 1099511627776
        · have HX := Lib.hid (show DecAt s (k + 1) (10 * n + (bt s k - 48)) from ⟨hD2, by omega, by omega, by
            have h1 := HV.out
            have h2 := HN2.out
            rcases h2 with ⟨_, h2⟩ | ⟨h2, _⟩
            · omega
            · omega⟩)
          clear hD hD2 hpos
          go_wp2
          go_round
          case rel => exact ⟨k + 1, _, by omega, by go_num, rfl, HX.out⟩
          case measure => simp [RowKit.intOf]; omega
        · have HX := Lib.hid (show DecAt s (k + 1) n from ⟨hD2, by omega, by omega, by
            have h1 := HV.out
            have h2 := HN2.out
            rcases h2 with ⟨h2, _⟩ | ⟨_, h2⟩
            · omega
            · exact .inr ⟨by omega, by omega⟩⟩)
          clear hD hD2 hpos
          go_wp2
          go_round
          case rel => exact ⟨k + 1, n, by omega, by go_num, rfl, HX.out⟩
          case measure => simp [RowKit.intOf]; omega
      · have HR := Lib.hid (decV_no (s := s) (by rw [numR_bad hlt (by have := @digV_dec (bt s k); omega)]; simp))
        have hd' : bt s k < 48 ∨ (48 ≤ bt s k ∧ 57 < bt s k) := by omega
        clear hd
        rcases hd' with hd | ⟨hd0, hd⟩
        all_goals
          go_wp2
          go_ret
          exact ⟨ret_int HR.out.symm, rfl⟩
    · obtain rfl : k = s.size := by omega
      by_cases hz : s.size = 0
      · have he : s.toList.isEmpty = true := by rw [empty_eq]; exact decide_eq_true hz
        have HR := Lib.hid (decV_no (s := s) (by rw [numR_empty hz]; simp))
        clear hz
        go_wp2
        go_ret
        exact ⟨ret_int HR.out.symm, rfl⟩
      · have he : s.toList.isEmpty = false := by rw [empty_eq]; exact decide_eq_false hz
        by_cases hbig : n ≤ 1099511627776
        · have hv : n = numV 10 (s.data.toList.take s.size) := by
            rcases HN2.out with ⟨_, h2⟩ | ⟨h2, _⟩
            · exact h2
            · omega
          have HR := Lib.hid (numR_ok (most := 1099511627776) (by omega) hD (by omega))
          have HE := Lib.hid (decV_ok (s := s) (by rw [HR.out])).1
          clear hv hz hD
          have hv : n = numV 10 (s.data.toList.take s.size) := by
            rcases HN2.out with ⟨_, h2⟩ | ⟨h2, _⟩
            · exact h2
            · omega
          have HV := Lib.hid hv
          clear hv
          go_wp2
          go_ret
          exact ⟨ret_int (by rw [HE.out, HR.out]; exact HV.out), rfl⟩
        · have hv : 1099511627776 < numV 10 (s.data.toList.take s.size) := by
            rcases HN2.out with ⟨h2, _⟩ | ⟨_, h2⟩
            · omega
            · exact h2
          have HR := Lib.hid (numR_big (most := 1099511627776) (by omega) hD hv)
          have HE := Lib.hid (decV_no (s := s) (by rw [HR.out]; simp))
          clear hv hz hD
          go_wp2
          go_ret
          exact ⟨ret_int HE.out.symm, rfl⟩
end Go.Proofs.YtamagbdkcfmfmaaDoor
