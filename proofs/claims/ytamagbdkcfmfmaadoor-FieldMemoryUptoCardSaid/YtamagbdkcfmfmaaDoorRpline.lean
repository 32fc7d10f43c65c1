/-
  ParseLine, of the reference: the walk.
-/
import Derived.Test.YtamagbdkcfmfmaaDoorRoct
import Derived.Test.YtamagbdkcfmfmaaDoorPline
import Derived.Test.YtamagbdkcfmfmaaDoorPlain2
namespace Go.Proofs.YtamagbdkcfmfmaaDoor
open Go.RowKit Go.Shelf Go.Lib

set_option maxRecDepth 20000 in
set_option maxHeartbeats 2000000 in
theorem rParseLine_any (s : ByteArray) (w : World) (hs : s.size ≤ maxLen) :
    Calls Tryd.prog 19 #[.string s] w fun e w' => e = .returned (plVal (parseLine s)) ∧ Below w.heap.size w w' := by
  have HS := Lib.hid hs
  unfold maxLen at hs
  by_cases hz : s.size = 0
  · have hp := pl_nocolon (s := s) (by omega) (by have := place_le s 58; omega)
    have hf : findB s 58 = -1 := by unfold findB; rw [if_pos (by have := place_le s 58; omega)]
    have HP' := Lib.hid hp
    have HF := Lib.hid hf
    have he : s.toList.isEmpty = true := by rw [empty_eq]; simpa using hz
    clear hp hf hz
    go_enter Tryd.func19, Tryd.ntmps19
    go_wp2_with fail
    refine (rfind_any _ _ _ HS.out).mono ?_
    rintro e w' ⟨rfl, rfl⟩
    rw [HF.out]
    go_wp2
    exact bodyPost_ret (v := plVal ((⟨#[]⟩ : ByteArray), (⟨#[]⟩ : ByteArray), s.size, 62)) (by simp [results, Tryd.results19, go_sem, plVal]) rfl ⟨by rw [HP'.out], by repeat (first | exact Below.refl _ _ | (refine Below.setCell ?_ (by simp) _) | (refine Below.alloc ?_ (by simp) _))⟩
  · have he : s.toList.isEmpty = false := by rw [empty_eq]; simpa using hz
    have h0 : 0 < s.size := by omega
    have hb0 := @bt_eq s 0 h0
    clear hz
    go_enter Tryd.func19, Tryd.ntmps19
    go_wp2_with fail
    refine (rBlank_any _ _).mono ?_
    rintro e w' ⟨rfl, rfl⟩
    cases hb : blank (bt s 0)
    · have hnot : ¬ (0 < s.size ∧ blank (bt s 0) = true) := by rw [hb]; simp
      have HN := Lib.hid hnot
      clear hb hnot
      go_wp2_with fail
      refine (rfind_any _ _ _ HS.out).mono ?_
      rintro e w' ⟨rfl, rfl⟩
      rcases findB_cases s 58 with ⟨hf, hp, _⟩ | ⟨k, hk, hf, hp, _, _⟩
      · rw [hf]
        have HP' := Lib.hid (pl_nocolon HN.out hp)
        clear hf hp
        go_wp2
        exact bodyPost_ret (v := plVal ((⟨#[]⟩ : ByteArray), (⟨#[]⟩ : ByteArray), s.size, 62)) (by simp [results, Tryd.results19, go_sem, plVal]) rfl ⟨by rw [HP'.out], by repeat (first | exact Below.refl _ _ | (refine Below.setCell ?_ (by simp) _) | (refine Below.alloc ?_ (by simp) _))⟩
      · rw [hf]
        have HP := Lib.hid hp
        clear hf hp
        by_cases hk0 : k = 0
        · subst hk0
          have HP' := Lib.hid (pl_zero HN.out h0 HP.out)
          go_wp2
          exact bodyPost_ret (v := plVal ((⟨#[]⟩ : ByteArray), (⟨#[]⟩ : ByteArray), 0, 60)) (by simp [results, Tryd.results19, go_sem, plVal]) rfl ⟨by rw [HP'.out], by repeat (first | exact Below.refl _ _ | (refine Below.setCell ?_ (by simp) _) | (refine Below.alloc ?_ (by simp) _))⟩
        · have hk1 : 0 < k := by omega
          have hkk : ((k : Int) == 0) = false := by simp; omega
          have hkn : decide ((k : Int) < 0) = false := by simp
          clear hk0
          go_wp2
          go_loop [6] (fun v => ∃ i : Nat, i ≤ k ∧ v = .int .i64 i ∧ Good (fun j => decide (j < 128) && sign (bt s j)) 0 i) (fun i => k - (RowKit.intOf i).toNat)
          case atStart => exact ⟨0, by omega, rfl, Good.zero _ _⟩
          case round =>
            obtain ⟨i, hi, rfl, hgood⟩ := hrel
            by_cases hik : i < k
            · have h128 := good_128 hgood
              have hbi := @bt_eq s i (by omega)
              by_cases hi128 : i < 128
              · have hie : ((i : Int) == 128) = false := by simp; omega
                cases hsg : sign (bt s i)
                · have HP' := Lib.hid (pl_name HN.out hk HP.out hik hgood (by rw [hsg]; simp))
                  go_wp2_with (go_at_call 77; refine (rSign_any _ _).mono ?_; rw [hsg]; rintro e w' ⟨rfl, rfl⟩)
                  exact bodyPost_ret (v := plVal ((⟨#[]⟩ : ByteArray), (⟨#[]⟩ : ByteArray), (i : Int), 60)) (by simp [results, Tryd.results19, go_sem, plVal]) rfl ⟨by rw [HP'.out], by repeat (first | exact Below.refl _ _ | (refine Below.setCell ?_ (by simp) _) | (refine Below.alloc ?_ (by simp) _))⟩
                · go_wp2_with (go_at_call 77; refine (rSign_any _ _).mono ?_; rw [hsg]; rintro e w' ⟨rfl, rfl⟩)
                  go_round
                  case rel => exact ⟨i + 1, by omega, by go_num, hgood.succ (by rw [hsg]; simpa using hi128)⟩
                  case measure => simp [RowKit.intOf]; omega
              · obtain rfl : i = 128 := by omega
                have HP' := Lib.hid (pl_name HN.out hk HP.out hik hgood (by simp))
                go_wp2
                exact bodyPost_ret (v := plVal ((⟨#[]⟩ : ByteArray), (⟨#[]⟩ : ByteArray), (128 : Int), 60)) (by simp [results, Tryd.results19, go_sem, plVal]) rfl ⟨by rw [HP'.out]; rfl, by repeat (first | exact Below.refl _ _ | (refine Below.setCell ?_ (by simp) _) | (refine Below.alloc ?_ (by simp) _))⟩
            · obtain rfl : k = i := by omega
              clear hik hi hkk
              go_wp2
              go_loop [7] (fun v => ∃ i : Nat, k + 1 ≤ i ∧ i ≤ s.size ∧ v = .int .i64 i ∧ Good (fun j => inside (bt s j)) (k + 1) i) (fun i => s.size - (RowKit.intOf i).toNat)
              case atStart => exact ⟨k + 1, by omega, by omega, by go_num, Good.zero _ _⟩
              case round =>
                obtain ⟨i, hki, hi, rfl, hin⟩ := hrel
                by_cases his : i < s.size
                · have hbi := @bt_eq s i (by omega)
                  cases hsg : inside (bt s i)
                  · have HP' := Lib.hid (pl_value HN.out hk hk1 HP.out hgood hki his hin hsg)
                    go_wp2_with (go_at_call 78; refine (rInside_any _ _).mono ?_; rw [hsg]; rintro e w' ⟨rfl, rfl⟩)
                    exact bodyPost_ret (v := plVal ((⟨#[]⟩ : ByteArray), (⟨#[]⟩ : ByteArray), (i : Int), 61)) (by simp [results, Tryd.results19, go_sem, plVal]) rfl ⟨by rw [HP'.out], by repeat (first | exact Below.refl _ _ | (refine Below.setCell ?_ (by simp) _) | (refine Below.alloc ?_ (by simp) _))⟩
                  · go_wp2_with (go_at_call 78; refine (rInside_any _ _).mono ?_; rw [hsg]; rintro e w' ⟨rfl, rfl⟩)
                    go_round
                    case rel => exact ⟨i + 1, by omega, by omega, by go_num, hin.succ hsg⟩
                    case measure => simp [RowKit.intOf]; omega
                · obtain rfl : i = s.size := by omega
                  have hrs := ext_size s (a := k + 1) (b := s.size) (by omega) (by omega)
                  have hts := trim_size (s.extract (k + 1) s.size)
                  have htu := trim_le_trimL (s.extract (k + 1) s.size)
                  have HL := Lib.hid (pl_long HN.out hk hk1 HP.out hgood hin)
                  have HO := Lib.hid (pl_ok HN.out hk hk1 HP.out hgood hin)
                  have HAT := Lib.hid (fun i => @lead_at s (k + 1) i)
                  have HEN := Lib.hid (@lead_end s (k + 1))
                  have hTrim := fun w => rTrim_any (s.extract (k + 1) s.size) w (by unfold maxLen; omega)
                  rw [hrs] at hts
                  have HRS := Lib.hid hrs
                  clear hrs his hki hi hgood hin
                  generalize trim (s.extract (k + 1) s.size) = v at *
                  generalize trimL (s.extract (k + 1) s.size) = u at *
                  have HTrim := Lib.hid hTrim
                  clear hTrim
                  go_wp2_with fail
                  refine (HTrim.out _).mono ?_
                  rintro e w1 ⟨rfl, rfl⟩
                  rcases Nat.lt_or_ge 8192 v.size with hlong | hlong
                  · have HL' := Lib.hid (HL.out hlong)
                    clear HL HO HTrim
                    have hvl : decide ((8192 : Int) < (v.size : Int)) = true := by simp; omega
                    go_wp2
                    go_loop [9] (fun v => ∃ i : Nat, k + 1 ≤ i ∧ i ≤ s.size ∧ v = .int .i64 i ∧ Good (fun j => blank (bt s j)) (k + 1) i) (fun i => s.size - (RowKit.intOf i).toNat)
                    case atStart => exact ⟨k + 1, by omega, by omega, by go_num, Good.zero _ _⟩
                    case round =>
                      obtain ⟨i, hki, hi, rfl, hbk⟩ := hrel
                      have his : i < s.size := by
                        rcases Nat.lt_or_ge i s.size with h | h
                        · exact h
                        · obtain rfl : i = s.size := by omega
                          have := HEN.out hbk (by omega)
                          omega
                      have hbi := @bt_eq s i his
                      cases hbl : blank (bt s i)
                      · have hu := HAT.out i hbk hki his hbl
                        have hlt : i + 8192 < s.size := by omega
                        have hP : parseLine s = ((⟨#[]⟩ : ByteArray), (⟨#[]⟩ : ByteArray), (i : Int) + 8192, 61) := by
                          rw [HL'.out, HRS.out, hu, Int.natCast_sub (by omega), Int.natCast_sub (by omega)]
                          congr 3
                          simp only [Int.natCast_add, Int.natCast_one]
                          omega
                        have HP' := Lib.hid hP
                        clear hP hu
                        go_wp2_with (go_at_call 75; refine (rBlank_any _ _).mono ?_; rw [hbl]; rintro e w' ⟨rfl, rfl⟩)
                        exact bodyPost_ret (v := plVal ((⟨#[]⟩ : ByteArray), (⟨#[]⟩ : ByteArray), (i : Int) + 8192, 61)) (by simp [results, Tryd.results19, go_sem, plVal]) rfl ⟨by rw [HP'.out], by repeat (first | exact Below.refl _ _ | (refine Below.setCell ?_ (by simp) _) | (refine Below.alloc ?_ (by simp) _))⟩
                      · go_wp2_with (go_at_call 75; refine (rBlank_any _ _).mono ?_; rw [hbl]; rintro e w' ⟨rfl, rfl⟩)
                        go_round
                        case rel => exact ⟨i + 1, by omega, by omega, by go_num, hbk.succ hbl⟩
                        case measure => simp [RowKit.intOf]; omega
                  · have HP' := Lib.hid (HO.out (by omega))
                    clear HL HO HTrim
                    go_wp2
                    exact bodyPost_ret (v := plVal (s.extract 0 k, v, 0, 0)) (by simp [results, Tryd.results19, go_sem, plVal]) rfl ⟨by rw [HP'.out], by repeat (first | exact Below.refl _ _ | (refine Below.setCell ?_ (by simp) _) | (refine Below.alloc ?_ (by simp) _))⟩
    · have HP' := Lib.hid (pl_blank h0 hb)
      clear hb
      go_wp2
      exact bodyPost_ret (v := plVal ((⟨#[]⟩ : ByteArray), (⟨#[]⟩ : ByteArray), 0, 63)) (by simp [results, Tryd.results19, go_sem, plVal]) rfl ⟨by rw [HP'.out], by repeat (first | exact Below.refl _ _ | (refine Below.setCell ?_ (by simp) _) | (refine Below.alloc ?_ (by simp) _))⟩
end Go.Proofs.YtamagbdkcfmfmaaDoor
