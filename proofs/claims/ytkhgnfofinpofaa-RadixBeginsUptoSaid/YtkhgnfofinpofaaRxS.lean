/-
  Walks of layer 13's small functions: letters, digits, signs; the ends of static pieces and of names.
-/
import Derived.Test.YtkhgnfofinpofaaTgR
import Derived.Test.YtkhgnfofinpofaaRxP
namespace Go.Proofs.Ytkhgnfofinpofaa
open Go.RowKit Go.Shelf Go.Lib

theorem letB_yes {c : Int} (h : (65 ≤ c ∧ c ≤ 90) ∨ (97 ≤ c ∧ c ≤ 122)) : letB c = true := by unfold letB; simp; omega
theorem letB_no {c : Int} (h : c < 65 ∨ (90 < c ∧ c < 97) ∨ 122 < c) : letB c = false := by unfold letB; simp; omega
theorem letB_isLet (c : Int) : isLet c = letB c := by unfold isLet letB; rw [Bool.or_comm]
theorem digB_isDgt (c : Int) : isDgt c = digB c := rfl
theorem xLetter_any (c : Int) (w : World) :
    Calls Try.prog 112 #[.int .u8 c] w fun e w' => e = .returned (.bool (letB c)) ∧ w = w' := by
  have hs : (65 ≤ c ∧ c ≤ 90) ∨ (97 ≤ c ∧ c ≤ 122) ∨ c < 65 ∨ (90 < c ∧ c < 97) ∨ 122 < c := by omega
  rcases hs with ⟨g1, g2⟩ | ⟨g1, g2⟩ | g1 | ⟨g1, g2⟩ | g1
  all_goals
    go_enter Try.func112, Try.ntmps112
    go_wp2
    go_ret
    first | exact ⟨ret_bool (letB_yes (by omega)).symm, rfl⟩ | exact ⟨ret_bool (letB_no (by omega)).symm, rfl⟩ | exact ⟨ret_bool (by rw [letB_no (by omega)]; simp; omega), rfl⟩
theorem xDigit_any (c : Int) (w : World) :
    Calls Try.prog 113 #[.int .u8 c] w fun e w' => e = .returned (.bool (digB c)) ∧ w = w' := by
  have hs : (48 ≤ c ∧ c ≤ 57) ∨ c < 48 ∨ 57 < c := by omega
  rcases hs with ⟨g1, g2⟩ | g1 | g1
  all_goals
    go_enter Try.func113, Try.ntmps113
    go_wp2
    go_ret
    exact ⟨ret_bool (by unfold digB; simp; try omega), rfl⟩
set_option maxRecDepth 20000 in
theorem xHex_any (c : Int) (w : World) :
    Calls Try.prog 111 #[.int .u8 c] w fun e w' => e = .returned (.bool (isHexB c)) ∧ w = w' := by
  have HD := Lib.hid (fun w => xDigit_any c w)
  rw [← digB_isDgt] at HD
  cases hd : isDgt c
  · rw [hd] at HD
    rcases isHex_rest hd with ⟨h, g⟩ | ⟨h, g⟩
    · have HH := Lib.hid h
      clear h hd
      rcases g with ⟨g1, g2⟩ | ⟨g1, g2⟩
      all_goals
        go_enter Try.func111, Try.ntmps111
        go_wp2_with fail
        refine (HD.out _).mono ?_
        rintro e w' ⟨rfl, rfl⟩
        go_wp2
        go_ret
        first | exact ⟨ret_bool HH.out.symm, rfl⟩ | exact ⟨ret_bool (by rw [HH.out]; simp; omega), rfl⟩
    · have HH := Lib.hid h
      clear h hd
      rcases g with g1 | ⟨g1, g2⟩ | g1
      all_goals
        go_enter Try.func111, Try.ntmps111
        go_wp2_with fail
        refine (HD.out _).mono ?_
        rintro e w' ⟨rfl, rfl⟩
        go_wp2
        go_ret
        first | exact ⟨ret_bool HH.out.symm, rfl⟩ | exact ⟨ret_bool (by rw [HH.out]; simp; omega), rfl⟩
  · rw [hd] at HD
    have HH := Lib.hid (isHex_dgt hd)
    clear hd
    go_enter Try.func111, Try.ntmps111
    go_wp2_with fail
    refine (HD.out _).mono ?_
    rintro e w' ⟨rfl, rfl⟩
    go_wp2
    go_ret
    exact ⟨ret_bool HH.out.symm, rfl⟩
def signs18 : ByteArray := ⟨#[45, 46, 95, 126, 33, 36, 38, 39, 40, 41, 42, 43, 44, 59, 61, 58, 64]⟩
theorem signP_tab : ∀ n : Nat, n < 256 → signP n = (letB n || (digB n || inB signs18 n)) := by decide +kernel
theorem signP_eq {c : Int} (h0 : 0 ≤ c) (h1 : c < 256) : signP c = (letB c || (digB c || inB signs18 c)) := by
  obtain ⟨n, rfl⟩ := Int.eq_ofNat_of_zero_le h0
  exact signP_tab n (by omega)
set_option maxRecDepth 20000 in
theorem xSign_any (c : Int) (w : World) (h0 : 0 ≤ c) (h1 : c < 256) :
    Calls Try.prog 110 #[.int .u8 c] w fun e w' => e = .returned (.bool (signP c)) ∧ w = w' := by
  have HL := Lib.hid (fun w => xLetter_any c w)
  have HD := Lib.hid (fun w => xDigit_any c w)
  have HI := Lib.hid (fun w => IndexByte_any ⟨#[45, 46, 95, 126, 33, 36, 38, 39, 40, 41, 42, 43, 44, 59, 61, 58, 64]⟩ c w h0 h1)
  have hi := inB_find ⟨#[45, 46, 95, 126, 33, 36, 38, 39, 40, 41, 42, 43, 44, 59, 61, 58, 64]⟩ c
  rw [signP_eq h0 h1]
  unfold signs18
  generalize letB c = a at *
  generalize digB c = b at *
  generalize inB ⟨#[45, 46, 95, 126, 33, 36, 38, 39, 40, 41, 42, 43, 44, 59, 61, 58, 64]⟩ c = d at *
  generalize findB ⟨#[45, 46, 95, 126, 33, 36, 38, 39, 40, 41, 42, 43, 44, 59, 61, 58, 64]⟩ c = f at *
  clear h0 h1
  cases a
  · cases b
    · cases d
      · obtain rfl := hi.2 rfl
        clear hi
        go_enter Try.func110, Try.ntmps110
        go_wp2_with fail
        refine (HL.out _).mono ?_
        rintro e w' ⟨rfl, rfl⟩
        go_wp2_with fail
        refine (HD.out _).mono ?_
        rintro e w' ⟨rfl, rfl⟩
        go_wp2_with fail
        refine (HI.out _).mono ?_
        rintro e w' ⟨rfl, rfl⟩
        go_wp2
        go_ret
        exact ⟨rfl, rfl⟩
      · have hf := hi.1 rfl
        clear hi
        go_enter Try.func110, Try.ntmps110
        go_wp2_with fail
        refine (HL.out _).mono ?_
        rintro e w' ⟨rfl, rfl⟩
        go_wp2_with fail
        refine (HD.out _).mono ?_
        rintro e w' ⟨rfl, rfl⟩
        go_wp2_with fail
        refine (HI.out _).mono ?_
        rintro e w' ⟨rfl, rfl⟩
        go_wp2
        go_ret
        exact ⟨rfl, rfl⟩
    · clear hi HI
      go_enter Try.func110, Try.ntmps110
      go_wp2_with fail
      refine (HL.out _).mono ?_
      rintro e w' ⟨rfl, rfl⟩
      go_wp2_with fail
      refine (HD.out _).mono ?_
      rintro e w' ⟨rfl, rfl⟩
      go_wp2
      go_ret
      exact ⟨rfl, rfl⟩
  · clear hi HI HD
    go_enter Try.func110, Try.ntmps110
    go_wp2_with fail
    refine (HL.out _).mono ?_
    rintro e w' ⟨rfl, rfl⟩
    go_wp2
    go_ret
    exact ⟨rfl, rfl⟩
/-- The place behind a piece, and whether it is right. -/
def endVal (r : Nat × Bool) : Value := .tuple #[.int .i64 (r.1 : Int), .bool r.2]
theorem ret_end {a b : Nat × Bool} (h : a = b) : Ending.returned (endVal a) = .returned (endVal b) := by rw [h]
set_option maxRecDepth 20000 in
set_option maxHeartbeats 4000000 in
theorem nameEnd_any (s : ByteArray) (i : Nat) (w : World) (hs : s.size ≤ 1099511627776) (hi : i ≤ s.size) :
    Calls Try.prog 85 #[.string s, .int .i64 i] w fun e w' => e = .returned (endVal (nameE s i)) ∧ w = w' := by
  by_cases h0 : i < s.size
  · have hb := @bt_eq s i h0
    have hne : ((i : Int) == (s.size : Int)) = false := beq_eq_false_iff_ne.2 (by omega)
    have HL := Lib.hid (fun w => xLetter_any (bt s i) w)
    cases hl : letB (bt s i)
    · have HR := Lib.hid (nameE_no (s := s) (i := i) (by rw [hl]; simp))
      rw [hl] at HL
      clear hl
      go_enter Try.func85, Try.ntmps85
      go_wp2_with fail
      refine (HL.out _).mono ?_
      rintro e w' ⟨rfl, rfl⟩
      go_wp2
      go_ret2
      exact ⟨ret_end HR.out.symm, rfl⟩
    · have HR := Lib.hid (nameE_yes (s := s) (i := i) ⟨h0, hl⟩)
      rw [hl] at HL
      clear hl
      go_enter Try.func85, Try.ntmps85
      go_wp2_with fail
      refine (HL.out _).mono ?_
      rintro e w' ⟨rfl, rfl⟩
      clear hb h0 HL
      go_wp2
      go_loop [1] (fun v => ∃ k : Nat, i ≤ k ∧ k ≤ s.size ∧ v = .int .i64 k ∧ Good (fun j => nameB (bt s j)) i k) (fun v => s.size - (RowKit.intOf v).toNat)
      case atStart => exact ⟨i, by omega, by omega, rfl, fun j h1 h2 => by omega⟩
      case round =>
        obtain ⟨k, hik, hk, rfl, hgd⟩ := hrel
        by_cases hlt : k < s.size
        · have hb := @bt_eq s k hlt
          have HL := Lib.hid (fun w => xLetter_any (bt s k) w)
          have HD := Lib.hid (fun w => xDigit_any (bt s k) w)
          cases hn : nameB (bt s k)
          · have HE := Lib.hid (nameEnd_eq hik hk hgd (fun _ => hn))
            have hn' := hn
            unfold nameB at hn'
            simp only [Bool.or_eq_false_iff, decide_eq_false_iff_not] at hn'
            obtain ⟨n1, n2, n3⟩ := hn'
            have h95 : (bt s k == 95) = false := by simpa using n3
            rw [n1] at HL
            rw [n2] at HD
            clear hn n1 n2 n3 hgd
            go_wp2_with fail
            refine (HL.out _).mono ?_
            rintro e w' ⟨rfl, rfl⟩
            go_wp2_with fail
            refine (HD.out _).mono ?_
            rintro e w' ⟨rfl, rfl⟩
            go_wp2
            go_ret2
            refine ⟨?_, rfl⟩
            rw [HR.out, HE.out]
            rfl
          · have HG := Lib.hid (show Good (fun j => nameB (bt s j)) i (k + 1) from fun j h1 h2 => by
              by_cases e : j = k
              · subst e; exact hn
              · exact hgd j h1 (by omega))
            unfold nameB at hn
            clear hgd
            cases hl : letB (bt s k)
            · rw [hl] at HL hn
              cases hd : digB (bt s k)
              · rw [hd] at HD hn
                have h95 : (bt s k == 95) = true := by simpa using hn
                clear hl hd hn
                go_wp2_with fail
                refine (HL.out _).mono ?_
                rintro e w' ⟨rfl, rfl⟩
                go_wp2_with fail
                refine (HD.out _).mono ?_
                rintro e w' ⟨rfl, rfl⟩
                go_wp2
                go_round
                case rel => exact ⟨k + 1, by omega, by omega, by go_num, HG.out⟩
                case measure => simp [RowKit.intOf]; omega
              · rw [hd] at HD
                clear hl hd hn
                go_wp2_with fail
                refine (HL.out _).mono ?_
                rintro e w' ⟨rfl, rfl⟩
                go_wp2_with fail
                refine (HD.out _).mono ?_
                rintro e w' ⟨rfl, rfl⟩
                go_wp2
                go_round
                case rel => exact ⟨k + 1, by omega, by omega, by go_num, HG.out⟩
                case measure => simp [RowKit.intOf]; omega
            · rw [hl] at HL
              clear hl hn HD
              go_wp2_with fail
              refine (HL.out _).mono ?_
              rintro e w' ⟨rfl, rfl⟩
              go_wp2
              go_round
              case rel => exact ⟨k + 1, by omega, by omega, by go_num, HG.out⟩
              case measure => simp [RowKit.intOf]; omega
        · obtain rfl : k = s.size := by omega
          have HE := Lib.hid (nameEnd_eq hik hk hgd (fun h => by omega))
          clear hgd
          go_wp2
          go_ret2
          refine ⟨?_, rfl⟩
          rw [HR.out, HE.out]
          rfl
  · obtain rfl : i = s.size := by omega
    have HR := Lib.hid (nameE_no (s := s) (i := s.size) (by omega))
    clear h0
    go_enter Try.func85, Try.ntmps85
    go_wp2
    go_ret2
    exact ⟨ret_end HR.out.symm, rfl⟩
set_option maxRecDepth 20000 in
set_option maxHeartbeats 4000000 in
theorem staticEnd_any (s : ByteArray) (i : Nat) (w : World) (hs : s.size ≤ 1099511627776) (hi : i ≤ s.size) :
    Calls Try.prog 84 #[.string s, .int .i64 i] w fun e w' => e = .returned (endVal (statE s i)) ∧ w = w' := by
  go_enter Try.func84, Try.ntmps84
  go_wp2
  go_loop [1] (fun v => ∃ k : Nat, k ≤ s.size ∧ v = .int .i64 k ∧ statE s k = statE s i) (fun v => s.size - (RowKit.intOf v).toNat)
  case atStart => exact ⟨i, hi, rfl, rfl⟩
  case round =>
    obtain ⟨k, hk, rfl, hst⟩ := hrel
    have HST := Lib.hid hst
    clear hst
    by_cases hlt : k < s.size
    · have hb := @bt_eq s k hlt
      by_cases h47 : bt s k = 47
      · have HR := Lib.hid (HST.out.symm.trans (statE_end (.inr h47)))
        have hq : (bt s k != 47) = false := by rw [h47]; rfl
        clear h47
        go_wp2
        go_ret2
        refine ⟨?_, rfl⟩
        rw [HR.out]
        rfl
      · have hq : (bt s k != 47) = true := by simpa using h47
        by_cases h37 : bt s k = 37
        · have hp : (bt s k != 37) = false := by rw [h37]; rfl
          have H37 := Lib.hid h37
          clear h37 h47
          go_wp2
          go_loop [1, 30] (fun v d => ∃ c : Nat, c ≤ 2 ∧ v = .int .i64 ((k + 1 + c : Nat) : Int) ∧ d = .int .i64 (c : Int) ∧ Hid (1 ≤ c → k + 1 < s.size ∧ isHexB (bt s (k + 1)) = true) ∧ Hid (2 ≤ c → k + 2 < s.size ∧ isHexB (bt s (k + 2)) = true)) (fun _ d => 2 - (RowKit.intOf d).toNat)
          case atStart => exact ⟨0, by omega, by go_num, rfl, Lib.hid (fun h => by omega), Lib.hid (fun h => by omega)⟩
          case round =>
            obtain ⟨c, hc, rfl, rfl, A1, A2⟩ := hrel
            by_cases hc2 : c < 2
            · by_cases hlt2 : k + 1 + c < s.size
              · have e1 : (((k + 1 + c : Nat) : Int) == (s.size : Int)) = false := beq_eq_false_iff_ne.2 (by omega)
                have hb1 := @bt_eq s (k + 1 + c) hlt2
                have H1 := Lib.hid (fun w => xHex_any (bt s (k + 1 + c)) w)
                cases hx : isHexB (bt s (k + 1 + c))
                · rw [hx] at H1
                  have HR : Hid (statE s i = (k + 1 + c, false)) := by
                    apply Lib.hid
                    rw [← HST.out]
                    by_cases e0 : c = 0
                    · subst e0
                      exact statE_one hlt H37.out (fun h => by rw [h.2] at hx; cases hx)
                    · obtain rfl : c = 1 := by omega
                      exact statE_two H37.out (A1.out (by omega)) (fun h => by rw [h.2] at hx; cases hx)
                  clear hx
                  generalize hm : k + 1 + c = m at *
                  go_wp2_with fail
                  refine (H1.out _).mono ?_
                  rintro e w1 ⟨rfl, rfl⟩
                  go_wp2
                  go_ret2
                  refine ⟨?_, rfl⟩
                  rw [HR.out]
                  rfl
                · have B1 : Hid (1 ≤ c + 1 → k + 1 < s.size ∧ isHexB (bt s (k + 1)) = true) := Lib.hid (fun _ => by
                    by_cases e0 : c = 0
                    · subst e0; exact ⟨hlt2, hx⟩
                    · exact A1.out (by omega))
                  have B2 : Hid (2 ≤ c + 1 → k + 2 < s.size ∧ isHexB (bt s (k + 2)) = true) := Lib.hid (fun h => by
                    obtain rfl : c = 1 := by omega
                    exact ⟨hlt2, hx⟩)
                  rw [hx] at H1
                  clear hx A1 A2
                  have hm2 : ((k + 1 + c : Nat) : Int) + 1 = ((k + 1 + (c + 1) : Nat) : Int) := by omega
                  have hm3 : ((k + 1 + c : Nat) : Int).toNat = k + 1 + c := by omega
                  go_wp2_with fail
                  refine (H1.out _).mono ?_
                  rintro e w1 ⟨rfl, rfl⟩
                  go_wp2
                  go_round
                  case rel => exact ⟨c + 1, by omega, by go_num, by go_num, B1, B2⟩
                  case measure => simp [RowKit.intOf]; omega
              · have HR : Hid (statE s i = (k + 1 + c, false)) := by
                  apply Lib.hid
                  rw [← HST.out]
                  by_cases e0 : c = 0
                  · subst e0
                    exact statE_one hlt H37.out (by omega)
                  · obtain rfl : c = 1 := by omega
                    exact statE_two H37.out (A1.out (by omega)) (by omega)
                have hle : k + 1 + c = s.size := by
                  by_cases e0 : c = 0
                  · omega
                  · have := (A1.out (by omega)).1; omega
                rw [hle] at HR ⊢
                go_wp2
                go_ret2
                refine ⟨?_, rfl⟩
                rw [HR.out]
                rfl
            · have hc3 : c = 2 := by omega
              have HR := Lib.hid ((statE_tri H37.out (A1.out (by omega)) (A2.out (by omega))).symm.trans HST.out)
              have hk3 : k + 2 < s.size := (A2.out (by omega)).1
              clear A1 A2
              subst hc3
              go_wp2
              go_round
              case rel => exact ⟨k + 3, by omega, by go_num, HR.out⟩
              case measure => simp [RowKit.intOf]; omega
        · have hp : (bt s k != 37) = true := by simpa using h37
          have HS := Lib.hid (fun w => xSign_any (bt s k) w (bt_nonneg s _) (bt_lt s _))
          cases hg : signP (bt s k)
          · have HR := Lib.hid (HST.out.symm.trans (statE_no hlt h47 h37 hg))
            rw [hg] at HS
            clear hg h37 h47
            go_wp2_with fail
            refine (HS.out _).mono ?_
            rintro e w1 ⟨rfl, rfl⟩
            go_wp2
            go_ret2
            refine ⟨?_, rfl⟩
            rw [HR.out]
            rfl
          · have HR := Lib.hid ((statE_on hlt h47 h37 hg).symm.trans HST.out)
            rw [hg] at HS
            clear hg h37 h47
            go_wp2_with fail
            refine (HS.out _).mono ?_
            rintro e w1 ⟨rfl, rfl⟩
            go_wp2
            go_round
            case rel => exact ⟨k + 1, by omega, by go_num, HR.out⟩
            case measure => simp [RowKit.intOf]; omega
    · obtain rfl : k = s.size := by omega
      have HR := Lib.hid (HST.out.symm.trans (statE_end (.inl (Nat.le_refl _))))
      go_wp2
      go_ret2
      refine ⟨?_, rfl⟩
      rw [HR.out]
      rfl
end Go.Proofs.Ytkhgnfofinpofaa
