/-
  Canon: the walks.
-/
import Derived.Test.YtamagbdkcfmfmaaDoorCanon
namespace Go.Proofs.YtamagbdkcfmfmaaDoor
open Go.RowKit Go.Shelf Go.Lib

theorem begAt_succ (t : ByteArray) (k : Nat) : begAt t (k + 1) = (bt t k == 45) := by
  unfold begAt
  rw [decide_eq_false (by omega), Nat.add_sub_cancel]
  rfl
set_option maxRecDepth 20000 in
set_option maxHeartbeats 1000000 in
theorem Canon_any (s : ByteArray) (w : World) (hs : s.size ≤ maxLen) :
    Calls Tryd.prog 24 #[.string s] w fun e w' => e = .returned (.string (canon s)) ∧ Below w.heap.size w w' := by
  have hL := fun w => Lower_any s w hs
  have hz := lower_size s
  have hc := Lib.hid (show canon s = canonOf (lower s) from rfl)
  unfold maxLen at hs
  generalize lower s = t at *
  have hts : t.size ≤ 2 ^ 63 - 1 := by omega
  have HL := Lib.hid hL
  clear hL hz
  go_enter Tryd.func24, Tryd.ntmps24
  go_wp2_with fail
  refine (HL.out w).mono ?_
  rintro e w0 ⟨rfl, hb0⟩
  have hcv := bytes_conv w0 t
  have hbw := Lib.bytesWorld_size w0 5 t
  have hba := BytesAt.of_conv w0 5 t
  have hbl := below_conv w0 5 t
  generalize Lib.bytesWorld w0 5 t = w1 at hcv hbw hba hbl
  generalize grownCap w0 t.size 0 5 = cap at hcv
  have HW := Lib.hid hbw
  clear hbw
  go_wp2
  go_loopw [4, 12] (fun g i wr => ∃ k : Nat, k ≤ t.size ∧ g = .bool (begAt t k) ∧ i = .int .i64 k ∧ BytesAt wr w0.heap.size (ruleTo (canonAt t) t.data.toList k) ∧ Below w0.heap.size w0 wr ∧ w0.heap.size < wr.heap.size) (fun _ i _ => t.size - (RowKit.intOf i).toNat)
  case atStart => exact ⟨0, by omega, rfl, rfl, by rw [ruleTo_zero]; exact hba, hbl, by have := HW.out; omega⟩
  case round =>
    obtain ⟨k, hk, rfl, rfl, hb, hbl', hlt'⟩ := hrel
    by_cases hlt : k < t.size
    · have hkl : k < t.data.toList.length := by rw [size_eq]; exact hlt
      have hcell := hb.cell k (by rw [ruleTo_length]; exact hkl)
      have hf := hb.free k (by rw [ruleTo_length]; exact hkl)
      rw [ruleTo_getD _ _ _ _ hkl, if_neg (by omega)] at hcell
      change wr.cell? _ = some (.int .u8 (bt t k)) at hcell
      have HB := Lib.hid (begAt_succ t k)
      have h1 := bt_lt t k
      have h2 := bt_nonneg t k
      cases hbeg : begAt t k
      · have HS := Lib.hid (ruleTo_same (canonAt t) _ _ hkl (canonAt_no (.inl hbeg)))
        clear hbeg
        go_wp2
        go_roundw
        case rel => exact ⟨k + 1, by omega, by rw [HB.out], by go_num, by rw [HS.out]; exact hb, hbl', hlt'⟩
        case measure => simp [RowKit.intOf]; omega
      · by_cases hu : 97 ≤ bt t k ∧ bt t k ≤ 122
        · obtain ⟨hu1, hu2⟩ := hu
          have HY := Lib.hid (canonAt_yes hbeg hu1 hu2)
          clear hbeg
          go_wp2
          go_roundw
          case rel => exact ⟨k + 1, by omega, by rw [HB.out], by go_num, by rw [ruleTo_succ _ _ _ hkl]; exact hb.set (by rw [ruleTo_length]; exact hkl) _ _ (by rw [HY.out]; omega), hbl'.setCell (Nat.le_refl _) _, by simpa using hlt'⟩
          case measure => simp [RowKit.intOf]; omega
        · have hu' : bt t k < 97 ∨ 122 < bt t k := by omega
          have HS := Lib.hid (ruleTo_same (canonAt t) _ _ hkl (canonAt_no (.inr hu')))
          clear hbeg hu
          rcases hu' with hu | hu
          all_goals
            go_wp2
            go_roundw
            case rel => exact ⟨k + 1, by omega, by rw [HB.out], by go_num, by rw [HS.out]; exact hb, hbl', hlt'⟩
            case measure => simp [RowKit.intOf]; omega
    · obtain rfl : k = t.size := by omega
      have hcv := hb.conv Tryd.underlying95 Tryd.underlying5 Tryd.underlying9 cap
      rw [ruleTo_length, size_eq, ← size_eq t] at hcv
      have HC := Lib.hid (show canonOf t = ⟨(ruleTo (canonAt t) t.data.toList t.data.toList.length).toArray⟩ from rfl)
      rw [← HC.out, size_eq] at hcv
      go_wp2
      go_ret
      exact ⟨ret_str hc.out.symm, hb0.trans (hbl'.mono hb0.size)⟩

set_option maxRecDepth 20000 in
set_option maxHeartbeats 1000000 in
theorem rCanon_any (s : ByteArray) (w : World) (hs : s.size ≤ maxLen) :
    Calls Tryd.prog 25 #[.string s] w fun e w' => e = .returned (.string (canon s)) ∧ Below w.heap.size w w' := by
  have hL := fun w => rLower_any s w hs
  have hz := lower_size s
  have hc := Lib.hid (show canon s = canonOf (lower s) from rfl)
  unfold maxLen at hs
  generalize lower s = t at *
  have hts : t.size ≤ 2 ^ 63 - 1 := by omega
  have HL := Lib.hid hL
  clear hL hz
  go_enter Tryd.func25, Tryd.ntmps25
  go_wp2_with fail
  refine (HL.out w).mono ?_
  rintro e w0 ⟨rfl, hb0⟩
  have hcv := bytes_conv w0 t
  have hbw := Lib.bytesWorld_size w0 5 t
  have hba := BytesAt.of_conv w0 5 t
  have hbl := below_conv w0 5 t
  generalize Lib.bytesWorld w0 5 t = w1 at hcv hbw hba hbl
  generalize grownCap w0 t.size 0 5 = cap at hcv
  have HW := Lib.hid hbw
  clear hbw
  go_wp2
  go_loopw [4] (fun i wr => ∃ k : Nat, k ≤ t.size ∧ i = .int .i64 k ∧ BytesAt wr w0.heap.size (ruleTo (canonAt t) t.data.toList k) ∧ Below w0.heap.size w0 wr ∧ w0.heap.size < wr.heap.size) (fun i _ => t.size - (RowKit.intOf i).toNat)
  case atStart => exact ⟨0, by omega, rfl, by rw [ruleTo_zero]; exact hba, hbl, by have := HW.out; omega⟩
  case round =>
    obtain ⟨k, hk, rfl, hb, hbl', hlt'⟩ := hrel
    by_cases hlt : k < t.size
    · have hkl : k < t.data.toList.length := by rw [size_eq]; exact hlt
      have hcell := hb.cell k (by rw [ruleTo_length]; exact hkl)
      have hf := hb.free k (by rw [ruleTo_length]; exact hkl)
      rw [ruleTo_getD _ _ _ _ hkl, if_neg (by omega)] at hcell
      change wr.cell? _ = some (.int .u8 (bt t k)) at hcell
      have h1 := bt_lt t k
      have h2 := bt_nonneg t k
      by_cases hu : 97 ≤ bt t k ∧ bt t k ≤ 122
      · obtain ⟨hu1, hu2⟩ := hu
        by_cases hk0 : k = 0
        · subst hk0
          have HY := Lib.hid (canonAt_yes (t := t) (k := 0) rfl hu1 hu2)
          go_wp2
          go_roundw
          case rel => exact ⟨0 + 1, by omega, rfl, by rw [ruleTo_succ _ _ _ hkl]; exact hb.set (by rw [ruleTo_length]; exact hkl) _ _ (by rw [HY.out]), hbl'.setCell (Nat.le_refl _) _, by simpa using hlt'⟩
          case measure => simp [RowKit.intOf]; omega
        · have hk1 : ((k : Int) == 0) = false := by simp; omega
          have hi : ((k : Int) - 1).toNat = k - 1 := by omega
          have hpc := hb.cell (k - 1) (by rw [ruleTo_length]; omega)
          rw [ruleTo_getD _ _ _ _ (by omega), if_pos (by omega)] at hpc
          have hline := canonAt_line t (k - 1)
          generalize hq : ((canonAt t (k - 1)).toNat : Int) = q at hpc hline
          have hbg : begAt t k = (q == 45) := by
            unfold begAt
            rw [decide_eq_false hk0, Bool.false_or, Bool.eq_iff_iff]
            simp [hline]
          have HBG := Lib.hid hbg
          clear hq hline hbg
          have hkp : 1 ≤ (k : Int) := by omega
          clear hk0
          cases hq45 : (q == 45)
          · have HS := Lib.hid (ruleTo_same (canonAt t) _ _ hkl (canonAt_no (.inl (by rw [HBG.out, hq45]))))
            go_wp2
            go_roundw
            case rel => exact ⟨k + 1, by omega, by go_num, by rw [HS.out]; exact hb, hbl', hlt'⟩
            case measure => simp [RowKit.intOf]; omega
          · have HY := Lib.hid (canonAt_yes (t := t) (k := k) (by rw [HBG.out, hq45]) hu1 hu2)
            go_wp2
            go_roundw
            case rel => exact ⟨k + 1, by omega, by go_num, by rw [ruleTo_succ _ _ _ hkl]; exact hb.set (by rw [ruleTo_length]; exact hkl) _ _ (by rw [HY.out]), hbl'.setCell (Nat.le_refl _) _, by simpa using hlt'⟩
            case measure => simp [RowKit.intOf]; omega
      · have hu' : bt t k < 97 ∨ 122 < bt t k := by omega
        have HS := Lib.hid (ruleTo_same (canonAt t) _ _ hkl (canonAt_no (.inr hu')))
        clear hu
        rcases hu' with hu | hu
        all_goals
          go_wp2
          go_roundw
          case rel => exact ⟨k + 1, by omega, by go_num, by rw [HS.out]; exact hb, hbl', hlt'⟩
          case measure => simp [RowKit.intOf]; omega
    · obtain rfl : k = t.size := by omega
      have hcv := hb.conv Tryd.underlying95 Tryd.underlying5 Tryd.underlying9 cap
      rw [ruleTo_length, size_eq, ← size_eq t] at hcv
      have HC := Lib.hid (show canonOf t = ⟨(ruleTo (canonAt t) t.data.toList t.data.toList.length).toArray⟩ from rfl)
      rw [← HC.out, size_eq] at hcv
      go_wp2
      go_ret
      exact ⟨ret_str hc.out.symm, hb0.trans (hbl'.mono hb0.size)⟩
end Go.Proofs.YtamagbdkcfmfmaaDoor
