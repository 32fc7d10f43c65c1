/-
  A text with its plus signs as spaces, decoded: the walks, of the program and of the reference.
-/
import Derived.Test.YtjlnbjlhlglneaaGreatDoorTgSpc
import Derived.Test.YtjlnbjlhlglneaaGreatDoorTgLib
import Derived.Test.YtjlnbjlhlglneaaGreatDoorTgDr
import Derived.Test.YtjlnbjlhlglneaaGreatDoorTgNm
namespace Go.Proofs.YtjlnbjlhlglneaaGreatDoor
open Go.RowKit Go.Shelf Go.Lib

theorem Replace_any (s : ByteArray) (w : World) (hs : s.size ≤ 4194304) (hg : Glob w) :
    Calls Tryz.prog 36 #[.string s, .string ⟨#[43]⟩, .string ⟨#[32]⟩] w fun e w' => e = .returned (.string (spaceT s)) ∧ Below w.heap.size w w' := by
  obtain ⟨m, hm⟩ := hg.maxl
  have hc := count_plus s
  refine (Tryz.strings_ReplaceAll s ⟨#[43]⟩ ⟨#[32]⟩ m w (by omega) hm (by show 1 ≤ 1; omega) (by show s.size + Lib.countB s ⟨#[43]⟩ * 1 ≤ _; omega)).mono fun e w' ⟨he, hw⟩ => ⟨?_, hw⟩
  rw [he]
  exact ret_str (replace_plus s)
set_option maxRecDepth 20000 in
set_option maxHeartbeats 1000000 in
theorem Text_plus (s : ByteArray) (w : World) (hs : s.size ≤ 4194304) (hg : Glob w) :
    Calls Tryz.prog 34 #[.string s] w fun e w' => e = .returned (.string (spacedT s)) ∧ Below w.heap.size w w' := by
  have HR := Lib.hid (Replace_any s w hs hg)
  have hz := spaceT_size s
  have HD := Lib.hid (fun w => Decode_any (spaceT s) w (by omega))
  rw [spacedT_eq]
  clear hz
  generalize spaceT s = t at *
  unfold decVal at HD
  go_enter Tryz.func34, Tryz.ntmps34
  go_wp2_with fail
  refine HR.out.mono ?_
  rintro e w1 ⟨rfl, b1⟩
  go_wp2_with fail
  refine (HD.out _).mono ?_
  rintro e w2 ⟨rfl, b2⟩
  go_wp2
  go_ret
  exact ⟨rfl, b1.trans (b2.mono b1.size)⟩
set_option maxRecDepth 20000 in
set_option maxHeartbeats 2000000 in
theorem rspaced_any (s : ByteArray) (w : World) (hs : s.size ≤ 4194304) :
    Calls Tryz.prog 73 #[.string s] w fun e w' => e = .returned (.string (spacedT s)) ∧ Below w.heap.size w w' := by
  have hz := spaceT_size s
  have HD := Lib.hid (fun w => rDecode_any (spaceT s) w (by omega))
  unfold decVal at HD
  rw [spacedT_eq]
  clear hz
  have HSP := Lib.hid (show spaceT s = ⟨(s.data.toList.map spaceB).toArray⟩ from rfl)
  generalize spaceT s = t at *
  have hcv := bytes_conv w s
  have hbw := Lib.bytesWorld_size w 5 s
  have hba := BytesAt.of_conv w 5 s
  have hbl := below_conv w 5 s
  generalize Lib.bytesWorld w 5 s = w1 at hcv hbw hba hbl
  generalize grownCap w s.size 0 5 = cap at hcv
  have HW := Lib.hid hbw
  clear hbw
  go_enter Tryz.func73, Tryz.ntmps73
  go_wp2
  go_loopw [4] (fun i wr => ∃ k : Nat, k ≤ s.size ∧ i = .int .i64 k ∧ BytesAt wr w.heap.size (mapTo spaceB s.data.toList k) ∧ Below w.heap.size w wr ∧ w.heap.size < wr.heap.size) (fun i _ => s.size - (RowKit.intOf i).toNat)
  case atStart => exact ⟨0, by omega, rfl, by rw [mapTo_zero]; exact hba, hbl, by have := HW.out; omega⟩
  case round =>
    obtain ⟨k, hk, rfl, hb, hbl', hlt'⟩ := hrel
    by_cases hlt : k < s.size
    · have hkl : k < s.data.toList.length := by rw [size_eq]; exact hlt
      have hc := hb.cell k (by rw [mapTo_length]; exact hkl)
      have hf := hb.free k (by rw [mapTo_length]; exact hkl)
      rw [mapTo_getD spaceB _ _ hkl] at hc
      change wr.cell? _ = some (.int .u8 (bt s k)) at hc
      by_cases hu : bt s k = 43
      · have he : (bt s k == 43) = true := by rw [hu]; rfl
        have HU := Lib.hid (show ((spaceB (s.data.toList.getD k 0)).toNat : Int) = 32 by
          unfold spaceB
          rw [if_pos (show ((s.data.toList.getD k 0).toNat : Int) = 43 from hu)]
          rfl)
        clear hu
        go_wp2
        go_roundw
        case rel => exact ⟨k + 1, by omega, by go_num, by rw [mapTo_succ spaceB _ _ hkl]; exact hb.set (by rw [mapTo_length]; exact hkl) _ _ HU.out.symm, hbl'.setCell (Nat.le_refl _) _, by simpa using hlt'⟩
        case measure => simp [RowKit.intOf]; omega
      · have he : (bt s k == 43) = false := by simpa using hu
        have HS := Lib.hid (mapTo_same spaceB _ _ hkl (spaceB_no hu))
        clear hu
        go_wp2
        go_roundw
        case rel => exact ⟨k + 1, by omega, by go_num, by rw [HS.out]; exact hb, hbl', hlt'⟩
        case measure => simp [RowKit.intOf]; omega
    · obtain rfl : k = s.size := by omega
      have hcv := hb.conv Tryz.underlying82 Tryz.underlying5 Tryz.underlying9 cap
      rw [mapTo_length, size_eq, ← size_eq s, mapTo_all, size_eq, ← HSP.out] at hcv
      go_wp2_with fail
      refine (HD.out _).mono ?_
      rintro e w2 ⟨rfl, b2⟩
      go_wp2
      go_ret
      exact ⟨rfl, hbl'.trans (b2.mono hbl'.size)⟩
end Go.Proofs.YtjlnbjlhlglneaaGreatDoor
