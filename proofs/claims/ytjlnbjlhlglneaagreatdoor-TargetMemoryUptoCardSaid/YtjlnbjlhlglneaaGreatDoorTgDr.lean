/-
  Decoding, of the reference: the walk.
-/
import Derived.Test.YtjlnbjlhlglneaaGreatDoorTgDc
namespace Go.Proofs.YtjlnbjlhlglneaaGreatDoor
open Go.RowKit Go.Shelf Go.Lib

theorem numR_tri {s : ByteArray} {i : Nat} (h : tri s i = true) : numR (s.extract (i + 1) (i + 3)) 255 16 = (triV s i, 0) := by
  obtain ⟨h1, _, h3, h4⟩ := tri_iff.1 h
  have hz := ext_size s (a := i + 1) (b := i + 3) (by omega) (by omega)
  have b0 : bt (s.extract (i + 1) (i + 3)) 0 = bt s (i + 1) := ext_bt s (j := 0) (by omega)
  have b1 : bt (s.extract (i + 1) (i + 3)) 1 = bt s (i + 2) := ext_bt s (j := 1) (by omega)
  have r1 := digV_range (bt s (i + 1))
  have r2 := digV_range (bt s (i + 2))
  have hv : triV s i = digV (bt s (i + 1)) * 16 + digV (bt s (i + 2)) := rfl
  rw [← b0] at h3 r1 hv
  rw [← b1] at h4 r2 hv
  generalize s.extract (i + 1) (i + 3) = t at *
  have hz : t.size = 2 := by omega
  have n0 : numV 16 (t.data.toList.take 0) = 0 := rfl
  have n1 := numV_at (s := t) (base := 16) (k := 0) (by omega)
  have n2 := numV_at (s := t) (base := 16) (k := 1) (by omega)
  have d2 : Digs 16 t 2 := Digs.succ (k := 1) (Digs.succ (k := 0) Digs.zero (by omega) h3 (by omega)) (by omega) h4 (by omega)
  have hn : numV 16 (t.data.toList.take 2) = triV s i := by
    rw [hv]
    rw [n0] at n1
    rw [n1] at n2
    rw [n2]
    omega
  have := numR_ok (s := t) (base := 16) (most := 255) (by omega) (by rw [hz]; exact d2) (by rw [hz, hn, hv]; omega)
  rw [this, hz, hn]
theorem says_any (s : ByteArray) (i : Nat) (w : World) (hs : s.size ≤ 1099511627776) (h : tri s i = true) :
    Calls Tryz.prog 74 #[.string s, .int .i64 i] w fun e w' => e = .returned (.int .u8 (triV s i)) ∧ w = w' := by
  have h1 := (tri_iff.1 h).1
  have hr := tri_range h
  obtain ⟨hr1, hr2⟩ := hr
  have hz := ext_size s (a := i + 1) (b := i + 3) (by omega) (by omega)
  have HN := Lib.hid (fun w => rHexN_any (s.extract (i + 1) (i + 3)) 255 w (by omega) (by omega) (by omega))
  rw [numR_tri h] at HN
  have i1 : ((i : Int) + 1).toNat = i + 1 := by omega
  have i3 : ((i : Int) + 3).toNat = i + 3 := by omega
  have l3 : (i : Int) + 3 ≤ (s.size : Int) := by omega
  generalize triV s i = v at *
  clear hz h
  go_enter Tryz.func74, Tryz.ntmps74
  go_wp2_with fail
  refine (HN.out _).mono ?_
  rintro e w' ⟨rfl, rfl⟩
  go_wp2
  go_ret
  exact ⟨rfl, rfl⟩
set_option maxRecDepth 20000 in
set_option maxHeartbeats 4000000 in
theorem rDecode_any (s : ByteArray) (w : World) (hs : s.size ≤ 1099511627776) :
    Calls Tryz.prog 43 #[.string s] w fun e w' => e = .returned (decVal s) ∧ Below w.heap.size w w' := by
  obtain ⟨i0, hi0, hz0, hz1, hz2⟩ := info_parts info_byte
  go_enter Tryz.func43, Tryz.ntmps43
  go_wp2
  go_loopw [5, 6] (fun v i wr => ∃ (k : Nat) (acc : List UInt8), k ≤ s.size ∧ i = .int .i64 k ∧ OwnB wr w.heap.size v acc ∧ acc.length ≤ k ∧ decF s k acc = decF s 0 [] ∧ Below w.heap.size w wr) (fun _ i _ => s.size - (RowKit.intOf i).toNat)
  case atStart => exact ⟨0, [], by omega, rfl, own_empty w, by simp, rfl, (Below.refl _ w).alloc (Nat.le_refl _) _⟩
  case round =>
    obtain ⟨k, acc, hk, rfl, ho, hal, hdec, hbw⟩ := hrel
    have HD := Lib.hid hdec
    clear hdec
    by_cases hlt : k < s.size
    · have hb := @bt_eq s k hlt
      by_cases h37 : bt s k = 37
      · have hne : (bt s k == 37) = true := by rw [h37]; rfl
        have HT := Lib.hid (rTriple_any s k wr hs hk)
        cases ht : tri s k
        · have HB := Lib.hid (decVal_bad (HD.out.symm.trans (decF_bad hlt h37 ht)))
          rw [ht] at HT
          clear h37
          go_wp2_with fail
          refine HT.out.mono ?_
          rintro e w1 ⟨rfl, rfl⟩
          go_wp2
          go_ret3
          exact ⟨by rw [HB.out]; rfl, hbw⟩
        · have HS := Lib.hid ((decF_tri (acc := acc) ht).symm.trans HD.out)
          have HV := Lib.hid (triB_bt ht)
          have HY := Lib.hid (says_any s k wr hs ht)
          have h3 := (tri_iff.1 ht).1
          rw [ht] at HT
          rw [← HV.out] at HY
          clear h37
          go_wp2_with fail
          refine HT.out.mono ?_
          rintro e w1 ⟨rfl, rfl⟩
          go_wp2_with fail
          refine HY.out.mono ?_
          rintro e w1 ⟨rfl, rfl⟩
          have ho1 := ho
          unfold OwnB at ho1
          go_wp2_with (at_builtin; refine wpList_append_own _ rfl _ _ 82 rfl w.heap.size 5 i0 (.int .u8 0) 1 1 Tryz.underlying82 hi0 hz0 hz1 hz2 rfl (by decide) _ _ _ rfl (ho1.alloc _) ⟨wr.heap.size, 0, none⟩ 1 1 [byteV (triB s k)] rfl rfl (cell_one_new _ _ _) ?c1 ?c2 ?c3 ?c4 ?c5)
          case c1 => exact bytes_oneCell [_]
          case c2 => unfold maxLen; omega
          case c3 => omega
          case c4 => simp; have := hbw.size; omega
          case c5 =>
            intro v' w2 hown2 hg2 _
            have hb2 : Below w.heap.size w w2 := (hbw.alloc hbw.size _).grown hg2 (by simp; have := hbw.size; omega) (own_lt ho1)
            have ho2 : OwnB w2 w.heap.size v' (acc ++ [triB s k]) := by
              unfold OwnB
              rw [List.length_append, List.map_append]
              exact hown2
            clear hown2 hg2 ho ho1
            go_wp2
            go_roundw
            case rel => exact ⟨k + 3, _, by omega, by go_num, ho2, by simp; omega, HS.out, hb2⟩
            case measure => simp [RowKit.intOf]; omega
      · have hne : (bt s k == 37) = false := by simpa using h37
        have HS := Lib.hid ((decF_on (acc := acc) hlt h37).symm.trans HD.out)
        have ho1 := ho
        unfold OwnB at ho1
        clear h37
        go_wp2_with (at_builtin; refine wpList_append_own _ rfl _ _ 82 rfl w.heap.size 5 i0 (.int .u8 0) 1 1 Tryz.underlying82 hi0 hz0 hz1 hz2 rfl (by decide) _ _ _ rfl (ho1.alloc _) ⟨wr.heap.size, 0, none⟩ 1 1 [byteV (byteAt s k)] rfl rfl (cell_one_new _ _ _) ?d1 ?d2 ?d3 ?d4 ?d5)
        case d1 => exact bytes_oneCell [_]
        case d2 => unfold maxLen; omega
        case d3 => omega
        case d4 => simp; have := hbw.size; omega
        case d5 =>
          intro v' w2 hown2 hg2 _
          have hb2 : Below w.heap.size w w2 := (hbw.alloc hbw.size _).grown hg2 (by simp; have := hbw.size; omega) (own_lt ho1)
          have ho2 : OwnB w2 w.heap.size v' (acc ++ [byteAt s k]) := by
            unfold OwnB
            rw [List.length_append, List.map_append]
            exact hown2
          clear hown2 hg2 ho ho1
          go_wp2
          go_roundw
          case rel => exact ⟨k + 1, _, by omega, by go_num, ho2, by simp; omega, HS.out, hb2⟩
          case measure => simp [RowKit.intOf]; omega
    · obtain rfl : k = s.size := by omega
      have HB := Lib.hid (decVal_ok (HD.out.symm.trans (decF_end (acc := acc) (Nat.le_refl _))))
      have hcv := ho.conv
      go_wp2
      go_ret3
      exact ⟨by rw [HB.out]; rfl, hbw⟩
end Go.Proofs.YtjlnbjlhlglneaaGreatDoor
