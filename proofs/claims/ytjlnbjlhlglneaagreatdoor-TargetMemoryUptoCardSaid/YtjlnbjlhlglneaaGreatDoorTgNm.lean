/-
  Names of hosts and small letters, of the reference: the walks.
-/
import Derived.Test.YtjlnbjlhlglneaaGreatDoorTgAd
namespace Go.Proofs.YtjlnbjlhlglneaaGreatDoor
open Go.RowKit Go.Shelf Go.Lib

theorem name_stop {s : ByteArray} {i : Nat} (hi : i < s.size) (h : hostStop s = i) : isNameH s = false := by
  unfold isNameH
  rw [h, decide_eq_false (show ¬ i = s.size by omega)]
  simp
theorem name_end {s : ByteArray} (h : hostStop s = s.size) : isNameH s = !s.toList.isEmpty := by
  unfold isNameH
  rw [h, decide_eq_true rfl, Bool.and_true, empty_eq]
  by_cases h0 : s.size = 0
  · rw [decide_eq_true h0, decide_eq_false (show ¬ 0 < s.size by omega)]; rfl
  · rw [decide_eq_false h0, decide_eq_true (show 0 < s.size by omega)]; rfl
set_option maxRecDepth 20000 in
set_option maxHeartbeats 2000000 in
theorem risName_any (s : ByteArray) (w : World) (hs : s.size ≤ 1099511627776) :
    Calls Tryz.prog 95 #[.string s] w fun e w' => e = .returned (.bool (isNameH s)) ∧ w = w' := by
  go_enter Tryz.func95, Tryz.ntmps95
  go_wp2
  go_loop [3] (fun v => ∃ i : Nat, i ≤ s.size ∧ v = .int .i64 i ∧ stopF hostSign s i = hostStop s) (fun v => s.size - (RowKit.intOf v).toNat)
  case atStart => exact ⟨0, by omega, rfl, rfl⟩
  case round =>
    obtain ⟨i, hi, rfl, hst⟩ := hrel
    have HST := Lib.hid hst
    clear hst
    by_cases hlt : i < s.size
    · have hb := @bt_eq s i hlt
      have HT := Lib.hid (rTriple_any s i w hs hi)
      cases ht : tri s i
      · rw [ht] at HT
        have HU := Lib.hid (fun w => rUnres_any (bt s i) w)
        have HS := Lib.hid (fun w => rSub_any (bt s i) w)
        cases hu : unres (bt s i)
        · cases hsb : subd (bt s i)
          · have HN := Lib.hid (name_stop hlt (HST.out.symm.trans (stopF_stop (P := hostSign) hlt ht (by unfold hostSign; rw [hu, hsb]; rfl))))
            rw [hu] at HU
            rw [hsb] at HS
            clear hu hsb ht
            go_wp2_with fail
            refine HT.out.mono ?_
            rintro e w1 ⟨rfl, rfl⟩
            go_wp2_with fail
            refine (HU.out _).mono ?_
            rintro e w1 ⟨rfl, rfl⟩
            go_wp2_with fail
            refine (HS.out _).mono ?_
            rintro e w1 ⟨rfl, rfl⟩
            go_wp2
            go_ret
            exact ⟨ret_bool HN.out.symm, rfl⟩
          · have HF := Lib.hid ((stopF_on (P := hostSign) hlt ht (by unfold hostSign; rw [hu, hsb]; rfl)).symm.trans HST.out)
            rw [hu] at HU
            rw [hsb] at HS
            clear hu hsb ht
            go_wp2_with fail
            refine HT.out.mono ?_
            rintro e w1 ⟨rfl, rfl⟩
            go_wp2_with fail
            refine (HU.out _).mono ?_
            rintro e w1 ⟨rfl, rfl⟩
            go_wp2_with fail
            refine (HS.out _).mono ?_
            rintro e w1 ⟨rfl, rfl⟩
            go_wp2
            go_round
            case rel => exact ⟨i + 1, by omega, by go_num, HF.out⟩
            case measure => simp [RowKit.intOf]; omega
        · have HF := Lib.hid ((stopF_on (P := hostSign) hlt ht (by unfold hostSign; rw [hu]; rfl)).symm.trans HST.out)
          rw [hu] at HU
          clear hu ht HS
          go_wp2_with fail
          refine HT.out.mono ?_
          rintro e w1 ⟨rfl, rfl⟩
          go_wp2_with fail
          refine (HU.out _).mono ?_
          rintro e w1 ⟨rfl, rfl⟩
          go_wp2
          go_round
          case rel => exact ⟨i + 1, by omega, by go_num, HF.out⟩
          case measure => simp [RowKit.intOf]; omega
      · have HF := Lib.hid ((stopF_tri (P := hostSign) ht).symm.trans HST.out)
        have h3 := (tri_iff.1 ht).1
        rw [ht] at HT
        clear ht
        go_wp2_with fail
        refine HT.out.mono ?_
        rintro e w1 ⟨rfl, rfl⟩
        go_wp2
        go_round
        case rel => exact ⟨i + 3, by omega, by go_num, HF.out⟩
        case measure => simp [RowKit.intOf]; omega
    · obtain rfl : i = s.size := by omega
      have HN := Lib.hid (name_end (HST.out.symm.trans (stopF_end (Nat.le_refl _))))
      go_wp2
      go_ret
      exact ⟨ret_bool HN.out.symm, rfl⟩
set_option maxRecDepth 20000 in
set_option maxHeartbeats 2000000 in
theorem rLower_any (s : ByteArray) (w : World) (hs : s.size ≤ maxLen) :
    Calls Tryz.prog 65 #[.string s] w fun e w' => e = .returned (.string (lower s)) ∧ Below w.heap.size w w' := by
  unfold maxLen at hs
  have hcv := bytes_conv w s
  have hbw := Lib.bytesWorld_size w 5 s
  have hba := BytesAt.of_conv w 5 s
  have hbl := below_conv w 5 s
  generalize Lib.bytesWorld w 5 s = w1 at hcv hbw hba hbl
  generalize grownCap w s.size 0 5 = cap at hcv
  have HW := Lib.hid hbw
  clear hbw
  go_enter Tryz.func65, Tryz.ntmps65
  go_wp2
  go_loopw [4] (fun i wr => ∃ k : Nat, k ≤ s.size ∧ i = .int .i64 k ∧ BytesAt wr w.heap.size (mapTo lowB s.data.toList k) ∧ Below w.heap.size w wr ∧ w.heap.size < wr.heap.size) (fun i _ => s.size - (RowKit.intOf i).toNat)
  case atStart => exact ⟨0, by omega, rfl, by rw [mapTo_zero]; exact hba, hbl, by have := HW.out; omega⟩
  case round =>
    obtain ⟨k, hk, rfl, hb, hbl', hlt'⟩ := hrel
    by_cases hlt : k < s.size
    · have hkl : k < s.data.toList.length := by rw [size_eq]; exact hlt
      have hc := hb.cell k (by rw [mapTo_length]; exact hkl)
      have hf := hb.free k (by rw [mapTo_length]; exact hkl)
      rw [mapTo_getD lowB _ _ hkl] at hc
      change wr.cell? _ = some (.int .u8 (bt s k)) at hc
      by_cases hu : 65 ≤ bt s k ∧ bt s k ≤ 90
      · obtain ⟨hu1, hu2⟩ := hu
        have h1 := bt_lt s k
        go_wp2
        go_roundw
        case rel => exact ⟨k + 1, by omega, by go_num, by rw [mapTo_succ lowB _ _ hkl]; exact hb.set (by rw [mapTo_length]; exact hkl) _ _ (by unfold bt; rw [lowB_in ⟨hu1, hu2⟩]), hbl'.setCell (Nat.le_refl _) _, by simpa using hlt'⟩
        case measure => simp [RowKit.intOf]; omega
      · have hsame := mapTo_same lowB _ _ hkl (lowB_out hu)
        have HS := Lib.hid hsame
        clear hsame
        have hu' : bt s k < 65 ∨ 90 < bt s k := by omega
        clear hu
        rcases hu' with hu | hu
        all_goals
          go_wp2
          go_roundw
          case rel => exact ⟨k + 1, by omega, by go_num, by rw [HS.out]; exact hb, hbl', hlt'⟩
          case measure => simp [RowKit.intOf]; omega
    · obtain rfl : k = s.size := by omega
      have hcv := hb.conv Tryz.underlying82 Tryz.underlying5 Tryz.underlying9 cap
      rw [mapTo_length, size_eq, ← size_eq s, mapTo_all, size_eq] at hcv
      go_wp2
      go_ret
      exact ⟨rfl, hbl'⟩
end Go.Proofs.YtjlnbjlhlglneaaGreatDoor
