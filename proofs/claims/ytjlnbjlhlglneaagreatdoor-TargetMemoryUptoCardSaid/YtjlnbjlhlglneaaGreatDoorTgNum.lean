/-
  Numbers in digits: the walks of number, Decimal (program), number, Decimal, Hex (reference).
-/
import Derived.Test.YtjlnbjlhlglneaaGreatDoorTgR
import Derived.Test.YtjlnbjlhlglneaaGreatDoorMean
namespace Go.Proofs.YtjlnbjlhlglneaaGreatDoor
open Go.RowKit Go.Shelf Go.Lib

/-- How the reading of a number stands: k bytes read, the number so far, whether it is too great. -/
def NumAt (s : ByteArray) (most base : Int) (k : Nat) (n : Int) (big : Bool) : Prop :=
  Digs base s k ∧ 0 ≤ n ∧ n ≤ most ∧ (big = false → n = numV base (s.data.toList.take k)) ∧ (big = true → most < numV base (s.data.toList.take k))
theorem NumAt.start (s : ByteArray) {most base : Int} (h : 0 ≤ most) : NumAt s most base 0 0 false := ⟨Digs.zero, Int.le_refl _, h, fun _ => rfl, fun h => by cases h⟩
section
variable {s : ByteArray} {most base n : Int} {k : Nat} (hk : k < s.size) (hb : 2 ≤ base) (h0 : 0 ≤ digV (bt s k)) (h1 : digV (bt s k) < base)
include hk hb h0 h1
theorem NumAt.big (h : NumAt s most base k n true) : NumAt s most base (k + 1) n true := by
  obtain ⟨a, b, c, _, e⟩ := h
  have e := e rfl
  have h2 := numV_at (base := base) hk
  have h3 := a.pos (by omega)
  have h4 : numV base (s.data.toList.take k) * 1 ≤ numV base (s.data.toList.take k) * base := Int.mul_le_mul_of_nonneg_left (by omega) h3
  exact ⟨a.succ hk h0 h1, b, c, fun h => by (cases h), fun _ => by omega⟩
omit hb in
theorem NumAt.over (h : NumAt s most base k n false) (ho : most < n * base + digV (bt s k)) : NumAt s most base (k + 1) n true := by
  obtain ⟨a, b, c, d, _⟩ := h
  have d := d rfl
  have h2 := numV_at (base := base) hk
  exact ⟨a.succ hk h0 h1, b, c, fun h => by (cases h), fun _ => by rw [h2, ← d]; exact ho⟩
theorem NumAt.on (h : NumAt s most base k n false) (ho : n * base + digV (bt s k) ≤ most) : NumAt s most base (k + 1) (n * base + digV (bt s k)) false := by
  obtain ⟨a, b, c, d, _⟩ := h
  have d := d rfl
  have h2 := numV_at (base := base) hk
  have h3 : 0 ≤ n * base := Int.mul_nonneg b (by omega)
  exact ⟨a.succ hk h0 h1, by omega, ho, fun _ => by rw [h2, ← d], fun h => by (cases h)⟩
end
theorem quo_gt {n most base : Int} (hb : 0 < base) (_hn : 0 ≤ n) (_hm : 0 ≤ most) : most / base < n ↔ most < n * base := by
  rw [Int.ediv_lt_iff_lt_mul hb]

set_option maxRecDepth 20000 in
set_option maxHeartbeats 2000000 in
theorem number_any (s : ByteArray) (most base : Int) (w : World) (hs : s.size ≤ 1099511627776) (hm0 : 0 ≤ most) (hm1 : most ≤ 9223372036854775807) (hb1 : 2 ≤ base) (hb2 : base ≤ 16) :
    Calls Tryz.prog 113 #[.string s, .int .i64 most, .int .i64 base] w fun e w' => e = .returned (.tuple #[.int .i64 (numR s most base).1, .int .i64 (numR s most base).2]) ∧ Below w.heap.size w w' := by
  by_cases hz : s.size = 0
  · have he : s.toList.isEmpty = true := by rw [empty_eq]; exact decide_eq_true hz
    have HR := Lib.hid (numR_empty (most := most) (base := base) hz)
    clear hz
    go_enter Tryz.func113, Tryz.ntmps113
    go_wp2
    go_ret2
    exact ⟨by rw [HR.out]; rfl, Below.refl _ _⟩
  · have he : s.toList.isEmpty = false := by rw [empty_eq]; exact decide_eq_false hz
    have hneg : decide (most < 0) = false := by simp; omega
    have hz' : 0 < s.size := by omega
    clear hz
    go_enter Tryz.func113, Tryz.ntmps113
    go_wp2
    go_loopw [8, 9, 18] (fun v b i wr => ∃ (k : Nat) (n : Int) (big : Bool), k ≤ s.size ∧ i = .int .i64 k ∧ v = .int .i64 n ∧ b = .bool big ∧ NumAt s most base k n big ∧ Below w.heap.size w wr) (fun _ _ i _ => s.size - (RowKit.intOf i).toNat)
    case atStart => exact ⟨0, 0, false, by omega, rfl, rfl, rfl, NumAt.start s hm0, Below.refl _ _⟩
    case round =>
      obtain ⟨k, n, big, hk, rfl, rfl, rfl, hN, hbw⟩ := hrel
      by_cases hlt : k < s.size
      · obtain ⟨hdv, hsz1⟩ := digV_at s hlt
        have hsz0 := ext_size s (a := k) (b := k + 1) (by omega) (by omega)
        have HL := Lib.hid (fun w => Lower_any (s.extract k (k + 1)) w (by unfold maxLen; omega))
        have hbt := @bt_eq (lower (s.extract k (k + 1))) 0 hsz1
        have hr1 := bt_nonneg (lower (s.extract k (k + 1))) 0
        have hr2 := bt_lt (lower (s.extract k (k + 1))) 0
        have HI := Lib.hid (fun w => IndexByte_any hexDigits (bt (lower (s.extract k (k + 1))) 0) w hr1 hr2)
        rw [hdv] at HI
        generalize lower (s.extract k (k + 1)) = u at *
        have hn0 := hN.2.1
        have hn1 := hN.2.2.1
        have hdr := digV_range (bt s k)
        have hex : hexDigits = ⟨#[48, 49, 50, 51, 52, 53, 54, 55, 56, 57, 97, 98, 99, 100, 101, 102]⟩ := rfl
        rw [hex] at HI
        clear hdv hsz0 hex
        by_cases hd : 0 ≤ digV (bt s k) ∧ digV (bt s k) < base
        · obtain ⟨hd0, hd1⟩ := hd
          cases big
          · have HB := Lib.hid (hN.over hlt hd0 hd1)
            have HO := Lib.hid (hN.on hlt hb1 hd0 hd1)
            have hq := quo_gt (n := n) (most := most) (base := base) (by omega) hn0 hm0
            have hpos : 0 ≤ n * base := Int.mul_nonneg hn0 (by omega)
            clear hN
            generalize digV (bt s k) = d at *
            by_cases h1 : most < n * base
            · have h2 := hq.2 h1
              clear hq
              go_wp2_with fail
              refine (HL.out _).mono ?_
              rintro e w1 ⟨rfl, b1⟩
              go_wp2_with fail
              refine (HI.out _).mono ?_
              rintro e w2 ⟨rfl, rfl⟩
              go_wp2
              go_roundw
              case rel => exact ⟨k + 1, n, true, by omega, by go_num, rfl, rfl, HB.out (by omega), hbw.trans (b1.mono hbw.size)⟩
              case measure => simp [RowKit.intOf]; omega
            · have h2 : ¬ most / base < n := fun h => h1 (hq.1 h)
              clear hq
              by_cases h3 : most - d < n * base
              · go_wp2_with fail
                refine (HL.out _).mono ?_
                rintro e w1 ⟨rfl, b1⟩
                go_wp2_with fail
                refine (HI.out _).mono ?_
                rintro e w2 ⟨rfl, rfl⟩
                go_wp2
                go_roundw
                case rel => exact ⟨k + 1, n, true, by omega, by go_num, rfl, rfl, HB.out (by omega), hbw.trans (b1.mono hbw.size)⟩
                case measure => simp [RowKit.intOf]; omega
              · go_wp2_with fail
                refine (HL.out _).mono ?_
                rintro e w1 ⟨rfl, b1⟩
                go_wp2_with fail
                refine (HI.out _).mono ?_
                rintro e w2 ⟨rfl, rfl⟩
                go_wp2
                go_roundw
                case rel => exact ⟨k + 1, n * base + d, false, by omega, by go_num, rfl, rfl, HO.out (by omega), hbw.trans (b1.mono hbw.size)⟩
                case measure => simp [RowKit.intOf]; omega
          · have HB := Lib.hid (hN.big hlt hb1 hd0 hd1)
            clear hN
            generalize digV (bt s k) = d at *
            go_wp2_with fail
            refine (HL.out _).mono ?_
            rintro e w1 ⟨rfl, b1⟩
            go_wp2_with fail
            refine (HI.out _).mono ?_
            rintro e w2 ⟨rfl, rfl⟩
            go_wp2
            go_roundw
            case rel => exact ⟨k + 1, n, true, by omega, by go_num, rfl, rfl, HB.out, hbw.trans (b1.mono hbw.size)⟩
            case measure => simp [RowKit.intOf]; omega
        · have HR := Lib.hid (numR_bad (most := most) (base := base) hlt (by omega))
          clear hN
          have hd' : digV (bt s k) < 0 ∨ (0 ≤ digV (bt s k) ∧ base ≤ digV (bt s k)) := by omega
          generalize digV (bt s k) = d at *
          clear hd
          rcases hd' with hd | ⟨hd0, hd⟩
          all_goals
            go_wp2_with fail
            refine (HL.out _).mono ?_
            rintro e w1 ⟨rfl, b1⟩
            go_wp2_with fail
            refine (HI.out _).mono ?_
            rintro e w2 ⟨rfl, rfl⟩
            go_wp2
            go_ret2
            exact ⟨by rw [HR.out]; rfl, hbw.trans (b1.mono hbw.size)⟩
      · obtain rfl : k = s.size := by omega
        obtain ⟨hN1, _, hN2, hN3, hN4⟩ := hN
        cases big
        · have hv := hN3 rfl
          have HR := Lib.hid (numR_ok (most := most) hz' hN1 (by omega))
          rw [← hv] at HR
          clear hv hN1 hN3 hN4
          go_wp2
          go_ret2
          exact ⟨by rw [HR.out]; rfl, hbw⟩
        · have HR := Lib.hid (numR_big (most := most) hz' hN1 (hN4 rfl))
          clear hN1 hN3 hN4
          go_wp2
          go_ret2
          exact ⟨by rw [HR.out]; rfl, hbw⟩

set_option maxRecDepth 20000 in
theorem Decimal_any (s : ByteArray) (most : Int) (w : World) (hs : s.size ≤ 1099511627776) (hm0 : 0 ≤ most) (hm1 : most ≤ 9223372036854775807) :
    Calls Tryz.prog 88 #[.string s, .int .i64 most] w fun e w' => e = .returned (.tuple #[.int .i64 (numR s most 10).1, .int .i64 (numR s most 10).2]) ∧ Below w.heap.size w w' := by
  go_enter Tryz.func88, Tryz.ntmps88
  go_wp2_with fail
  refine (number_any s most 10 w hs hm0 hm1 (by omega) (by omega)).mono ?_
  rintro e w1 ⟨rfl, b1⟩
  go_wp2
  go_ret2
  exact ⟨rfl, b1⟩

theorem numV_grow {s : ByteArray} {base : Int} (hb : 1 ≤ base) (h : Digs base s s.size) : ∀ (d k : Nat), k + d = s.size → numV base (s.data.toList.take k) ≤ numV base (s.data.toList.take s.size)
  | 0, k, e => by rw [Nat.add_zero] at e; rw [e]; exact Int.le_refl _
  | d + 1, k, e => by
    have hk : k < s.size := by omega
    have ih := numV_grow hb h d (k + 1) (by omega)
    have hpre : ∀ j, j ≤ s.size → Digs base s j := fun j hj => by
      unfold Digs at *
      rw [List.all_eq_true] at *
      intro x hx
      refine h x ?_
      rw [take_full]
      exact List.mem_of_mem_take hx
    have h1 := (hpre k (by omega)).pos (base := base) (by omega)
    have h2 := numV_at (base := base) hk
    have h3 : 0 ≤ digV (bt s k) := by
      have hl : k < s.data.toList.length := by rw [size_eq]; exact hk
      have := List.all_eq_true.1 h (s.data.toList[k]) (by rw [take_full]; exact List.getElem_mem hl)
      have e2 : ((s.data.toList[k].toNat : Nat) : Int) = bt s k := by
        unfold bt
        rw [List.getD_eq_getElem?_getD, List.getElem?_eq_getElem hl]
        rfl
      rw [digOk_iff, e2] at this
      exact this.1
    have h4 : numV base (s.data.toList.take k) * 1 ≤ numV base (s.data.toList.take k) * base := Int.mul_le_mul_of_nonneg_left hb h1
    omega
theorem digs_at {s : ByteArray} {base : Int} {k : Nat} (h : Digs base s s.size) (hk : k < s.size) : 0 ≤ digV (bt s k) ∧ digV (bt s k) < base := by
  have hl : k < s.data.toList.length := by rw [size_eq]; exact hk
  have := List.all_eq_true.1 h (s.data.toList[k]) (by rw [take_full]; exact List.getElem_mem hl)
  have e2 : ((s.data.toList[k].toNat : Nat) : Int) = bt s k := by
    unfold bt
    rw [List.getD_eq_getElem?_getD, List.getElem?_eq_getElem hl]
    rfl
  rw [digOk_iff, e2] at this
  exact this
theorem dgt_iff {c : Int} : isDgt c = true ↔ (0 ≤ digV c ∧ digV c < 10) := by rw [digV_dec]; simp [isDgt]
theorem quo_le {n most base v : Int} (hb : 0 < base) : (most - v) / base < n ↔ most < n * base + v := by
  rw [Int.ediv_lt_iff_lt_mul hb]
  omega

set_option maxRecDepth 20000 in
set_option maxHeartbeats 2000000 in
theorem rnumber_10 (s : ByteArray) (most : Int) (w : World) (hs : s.size ≤ 1099511627776) (hm0 : 0 ≤ most) (hm1 : most ≤ 9223372036854775807) :
    Calls Tryz.prog 118 #[.string s, .int .i64 10, .int .i64 most] w fun e w' => e = .returned (.tuple #[.int .i64 (numR s most 10).1, .int .i64 (numR s most 10).2]) ∧ w = w' := by
  by_cases hz : s.size = 0
  · have he : s.toList.isEmpty = true := by rw [empty_eq]; exact decide_eq_true hz
    have HR := Lib.hid (numR_empty (most := most) (base := 10) hz)
    clear hz
    go_enter Tryz.func118, Tryz.ntmps118
    go_wp2
    go_ret2
    exact ⟨by rw [HR.out]; rfl, rfl⟩
  · have he : s.toList.isEmpty = false := by rw [empty_eq]; exact decide_eq_false hz
    have hz' : 0 < s.size := by omega
    clear hz
    go_enter Tryz.func118, Tryz.ntmps118
    go_wp2
    go_loop [8] (fun i => ∃ k : Nat, k ≤ s.size ∧ i = .int .i64 k ∧ Digs 10 s k) (fun i => s.size - (RowKit.intOf i).toNat)
    case atStart => exact ⟨0, by omega, rfl, Digs.zero⟩
    case round =>
      obtain ⟨k, hk, rfl, hD⟩ := hrel
      by_cases hlt : k < s.size
      · have hb := @bt_eq s k hlt
        have HC := Lib.hid (fun w => rDigit_any (bt s k) w)
        cases hp : isDgt (bt s k)
        · have HR := Lib.hid (numR_bad (most := most) (base := 10) hlt (by have := mt dgt_iff.2 (by rw [hp]; simp); omega))
          rw [hp] at HC
          clear hp hD
          go_wp2_with fail
          refine (HC.out _).mono ?_
          rintro e w' ⟨rfl, rfl⟩
          go_wp2
          go_ret2
          exact ⟨by rw [HR.out]; rfl, rfl⟩
        · have HD := Lib.hid (hD.succ hlt (dgt_iff.1 hp).1 (dgt_iff.1 hp).2)
          rw [hp] at HC
          clear hp hD
          go_wp2_with fail
          refine (HC.out _).mono ?_
          rintro e w' ⟨rfl, rfl⟩
          go_wp2
          go_round
          case rel => exact ⟨k + 1, by omega, by go_num, HD.out⟩
          case measure => simp [RowKit.intOf]; omega
      · obtain rfl : k = s.size := by omega
        have HD := Lib.hid hD
        clear hD hlt hk
        go_wp2
        go_loop [9, 10] (fun v i => ∃ k : Nat, k ≤ s.size ∧ i = .int .i64 k ∧ v = .int .i64 (numV 10 (s.data.toList.take k)) ∧ 0 ≤ numV 10 (s.data.toList.take k) ∧ numV 10 (s.data.toList.take k) ≤ most) (fun _ i => s.size - (RowKit.intOf i).toNat)
        case atStart => exact ⟨0, by omega, rfl, rfl, by simp [numV], by simpa [numV] using hm0⟩
        case round =>
          obtain ⟨k, hk, rfl, rfl, hn0, hn1⟩ := hrel
          by_cases hlt : k < s.size
          · have hb := @bt_eq s k hlt
            obtain ⟨hd0, hd1⟩ := digs_at HD.out hlt
            have HC := Lib.hid (fun w => rvalue_any (bt s k) w hd0 (bt_nonneg s k) (bt_lt s k))
            have HN := Lib.hid (numV_at (base := 10) hlt)
            have HG := Lib.hid (numV_grow (base := 10) (by omega) HD.out (s.size - (k + 1)) (k + 1) (by omega))
            have hq := quo_le (n := numV 10 (s.data.toList.take k)) (most := most) (base := 10) (v := digV (bt s k)) (by omega)
            generalize numV 10 (s.data.toList.take k) = n at *
            generalize digV (bt s k) = d at *
            by_cases ho : most < n * 10 + d
            · have HR := Lib.hid (numR_big (most := most) hz' HD.out (by have h1 := HG.out; rw [HN.out] at h1; omega))
              have h2 := hq.2 ho
              clear hq ho
              by_cases h1 : most < d
              · go_wp2_with fail
                refine (HC.out _).mono ?_
                rintro e w' ⟨rfl, rfl⟩
                go_wp2
                go_ret2
                exact ⟨by rw [HR.out]; rfl, rfl⟩
              · go_wp2_with fail
                refine (HC.out _).mono ?_
                rintro e w' ⟨rfl, rfl⟩
                go_wp2
                go_ret2
                exact ⟨by rw [HR.out]; rfl, rfl⟩
            · have h2 : ¬ (most - d) / 10 < n := fun h => ho (hq.1 h)
              have h1 : ¬ most < d := by omega
              clear hq
              go_wp2_with fail
              refine (HC.out _).mono ?_
              rintro e w' ⟨rfl, rfl⟩
              go_wp2
              go_round
              case rel => exact ⟨k + 1, by omega, by go_num, by rw [HN.out], by rw [HN.out]; omega, by rw [HN.out]; omega⟩
              case measure => simp [RowKit.intOf]; omega
          · obtain rfl : k = s.size := by omega
            have HR := Lib.hid (numR_ok (most := most) hz' HD.out (by omega))
            have hnm : ¬ most < numV 10 (s.data.toList.take s.size) := by omega
            generalize numV 10 (s.data.toList.take s.size) = n at *
            go_wp2
            go_ret2
            exact ⟨by rw [HR.out]; rfl, rfl⟩
theorem hex_iff {c : Int} : isHexB c = true ↔ (0 ≤ digV c ∧ digV c < 16) := by
  have := digV_range c
  rw [isHexB_iff]
  omega

set_option maxRecDepth 20000 in
set_option maxHeartbeats 2000000 in
theorem rnumber_16 (s : ByteArray) (most : Int) (w : World) (hs : s.size ≤ 1099511627776) (hm0 : 0 ≤ most) (hm1 : most ≤ 9223372036854775807) :
    Calls Tryz.prog 118 #[.string s, .int .i64 16, .int .i64 most] w fun e w' => e = .returned (.tuple #[.int .i64 (numR s most 16).1, .int .i64 (numR s most 16).2]) ∧ w = w' := by
  by_cases hz : s.size = 0
  · have he : s.toList.isEmpty = true := by rw [empty_eq]; exact decide_eq_true hz
    have HR := Lib.hid (numR_empty (most := most) (base := 16) hz)
    clear hz
    go_enter Tryz.func118, Tryz.ntmps118
    go_wp2
    go_ret2
    exact ⟨by rw [HR.out]; rfl, rfl⟩
  · have he : s.toList.isEmpty = false := by rw [empty_eq]; exact decide_eq_false hz
    have hz' : 0 < s.size := by omega
    clear hz
    go_enter Tryz.func118, Tryz.ntmps118
    go_wp2
    go_loop [8] (fun i => ∃ k : Nat, k ≤ s.size ∧ i = .int .i64 k ∧ Digs 16 s k) (fun i => s.size - (RowKit.intOf i).toNat)
    case atStart => exact ⟨0, by omega, rfl, Digs.zero⟩
    case round =>
      obtain ⟨k, hk, rfl, hD⟩ := hrel
      by_cases hlt : k < s.size
      · have hb := @bt_eq s k hlt
        have HC := Lib.hid (fun w => rHex_any (bt s k) w)
        cases hp : isHexB (bt s k)
        · have HR := Lib.hid (numR_bad (most := most) (base := 16) hlt (by have := mt hex_iff.2 (by rw [hp]; simp); omega))
          rw [hp] at HC
          clear hp hD
          go_wp2_with fail
          refine (HC.out _).mono ?_
          rintro e w' ⟨rfl, rfl⟩
          go_wp2
          go_ret2
          exact ⟨by rw [HR.out]; rfl, rfl⟩
        · have HD := Lib.hid (hD.succ hlt (hex_iff.1 hp).1 (hex_iff.1 hp).2)
          rw [hp] at HC
          clear hp hD
          go_wp2_with fail
          refine (HC.out _).mono ?_
          rintro e w' ⟨rfl, rfl⟩
          go_wp2
          go_round
          case rel => exact ⟨k + 1, by omega, by go_num, HD.out⟩
          case measure => simp [RowKit.intOf]; omega
      · obtain rfl : k = s.size := by omega
        have HD := Lib.hid hD
        clear hD hlt hk
        go_wp2
        go_loop [9, 10] (fun v i => ∃ k : Nat, k ≤ s.size ∧ i = .int .i64 k ∧ v = .int .i64 (numV 16 (s.data.toList.take k)) ∧ 0 ≤ numV 16 (s.data.toList.take k) ∧ numV 16 (s.data.toList.take k) ≤ most) (fun _ i => s.size - (RowKit.intOf i).toNat)
        case atStart => exact ⟨0, by omega, rfl, rfl, by simp [numV], by simpa [numV] using hm0⟩
        case round =>
          obtain ⟨k, hk, rfl, rfl, hn0, hn1⟩ := hrel
          by_cases hlt : k < s.size
          · have hb := @bt_eq s k hlt
            obtain ⟨hd0, hd1⟩ := digs_at HD.out hlt
            have HC := Lib.hid (fun w => rvalue_any (bt s k) w hd0 (bt_nonneg s k) (bt_lt s k))
            have HN := Lib.hid (numV_at (base := 16) hlt)
            have HG := Lib.hid (numV_grow (base := 16) (by omega) HD.out (s.size - (k + 1)) (k + 1) (by omega))
            have hq := quo_le (n := numV 16 (s.data.toList.take k)) (most := most) (base := 16) (v := digV (bt s k)) (by omega)
            generalize numV 16 (s.data.toList.take k) = n at *
            generalize digV (bt s k) = d at *
            by_cases ho : most < n * 16 + d
            · have HR := Lib.hid (numR_big (most := most) hz' HD.out (by have h1 := HG.out; rw [HN.out] at h1; omega))
              have h2 := hq.2 ho
              clear hq ho
              by_cases h1 : most < d
              · go_wp2_with fail
                refine (HC.out _).mono ?_
                rintro e w' ⟨rfl, rfl⟩
                go_wp2
                go_ret2
                exact ⟨by rw [HR.out]; rfl, rfl⟩
              · go_wp2_with fail
                refine (HC.out _).mono ?_
                rintro e w' ⟨rfl, rfl⟩
                go_wp2
                go_ret2
                exact ⟨by rw [HR.out]; rfl, rfl⟩
            · have h2 : ¬ (most - d) / 16 < n := fun h => ho (hq.1 h)
              have h1 : ¬ most < d := by omega
              clear hq
              go_wp2_with fail
              refine (HC.out _).mono ?_
              rintro e w' ⟨rfl, rfl⟩
              go_wp2
              go_round
              case rel => exact ⟨k + 1, by omega, by go_num, by rw [HN.out], by rw [HN.out]; omega, by rw [HN.out]; omega⟩
              case measure => simp [RowKit.intOf]; omega
          · obtain rfl : k = s.size := by omega
            have HR := Lib.hid (numR_ok (most := most) hz' HD.out (by omega))
            have hnm : ¬ most < numV 16 (s.data.toList.take s.size) := by omega
            generalize numV 16 (s.data.toList.take s.size) = n at *
            go_wp2
            go_ret2
            exact ⟨by rw [HR.out]; rfl, rfl⟩

theorem rDecimal_any (s : ByteArray) (most : Int) (w : World) (hs : s.size ≤ 1099511627776) (hm0 : 0 ≤ most) (hm1 : most ≤ 9223372036854775807) :
    Calls Tryz.prog 96 #[.string s, .int .i64 most] w fun e w' => e = .returned (.tuple #[.int .i64 (numR s most 10).1, .int .i64 (numR s most 10).2]) ∧ w = w' := by
  go_enter Tryz.func96, Tryz.ntmps96
  go_wp2_with fail
  refine (rnumber_10 s most _ hs hm0 hm1).mono ?_
  rintro e w' ⟨rfl, rfl⟩
  go_wp2
  go_ret2
  exact ⟨rfl, rfl⟩
theorem rHexN_any (s : ByteArray) (most : Int) (w : World) (hs : s.size ≤ 1099511627776) (hm0 : 0 ≤ most) (hm1 : most ≤ 9223372036854775807) :
    Calls Tryz.prog 103 #[.string s, .int .i64 most] w fun e w' => e = .returned (.tuple #[.int .i64 (numR s most 16).1, .int .i64 (numR s most 16).2]) ∧ w = w' := by
  go_enter Tryz.func103, Tryz.ntmps103
  go_wp2_with fail
  refine (rnumber_16 s most _ hs hm0 hm1).mono ?_
  rintro e w' ⟨rfl, rfl⟩
  go_wp2
  go_ret2
  exact ⟨rfl, rfl⟩
end Go.Proofs.YtjlnbjlhlglneaaGreatDoor
