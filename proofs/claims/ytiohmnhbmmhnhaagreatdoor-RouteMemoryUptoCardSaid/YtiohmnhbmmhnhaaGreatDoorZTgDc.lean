/-
 TgDc, without what this claim does not reach.
-/
import Derived.Test.YtiohmnhbmmhnhaaGreatDoorZTgEn
namespace Go.Proofs.YtiohmnhbmmhnhaaGreatDoor
open Go.RowKit Go.Shelf Go.Lib
theorem OwnB.drew {w : World} {base : Nat} {v : Value} {l : List UInt8} (h : OwnB w base v l) : OwnB w.drew base v l := World.ownsRow.drew h
theorem OwnB.drewN {w : World} {base : Nat} {v : Value} {l : List UInt8} (h : OwnB w base v l) (q : Nat) : OwnB (w.drewN q) base v l := own_below h (below_drewN (Below.refl _ _) q)
theorem OwnB.below {w w' : World} {base : Nat} {v : Value} {l : List UInt8} (h : OwnB w base v l) (hb : Below w.heap.size w w') : OwnB w' base v l := own_below h hb
def decVal (s : ByteArray) : Value := .tuple #[.string (decR s).1, .int .i64 ((decR s).2.1 : Int), .int .i64 (decR s).2.2]
theorem decVal_ok {s : ByteArray} {acc : List UInt8} (h : decF s 0 [] = (acc, 0, true)) : decVal s = .tuple #[.string ⟨acc.toArray⟩, .int .i64 0, .int .i64 0] := by unfold decVal decR; rw [h]; rfl
theorem decVal_bad {s : ByteArray} {i : Nat} (h : decF s 0 [] = ([], i, false)) : decVal s = .tuple #[.string ⟨#[]⟩, .int .i64 (i : Int), .int .i64 51] := by unfold decVal decR; rw [h]; rfl
set_option maxRecDepth 20000 in
set_option maxHeartbeats 4000000 in
theorem Decode_any (s : ByteArray) (w : World) (hs : s.size ≤ 1099511627776) :
  Calls Tryz.prog 93 #[.string s] w fun e w' => e = .returned (decVal s) ∧ Below w.heap.size w w' := by
 obtain ⟨i0, hi0, hz0, hz1, hz2⟩ := info_parts info_byte
 go_enter Tryz.func93, Tryz.ntmps93
 go_wp2
 go_loopw [5, 6] (fun v i wr => ∃ (k : Nat) (acc : List UInt8), k ≤ s.size ∧ i = .int .i64 k ∧ OwnB wr w.heap.size v acc ∧ acc.length ≤ k ∧ decF s k acc = decF s 0 [] ∧ Below w.heap.size w wr) (fun _ i _ => s.size - (RowKit.intOf i).toNat)
 case atStart => exact ⟨0, [], by omega, rfl, World.ownsRow_nil _ _ _ _, by simp, rfl, Below.refl _ _⟩
 case round =>
  obtain ⟨k, acc, hk, rfl, ho, hal, hdec, hbw⟩ := hrel
  have HD := Lib.hid hdec
  clear hdec
  by_cases hlt : k < s.size
  ·have hb := @bt_eq s k hlt
   by_cases h37 : bt s k = 37
   ·have hne : (bt s k != 37) = false := by rw [h37]; rfl
    have HT := Lib.hid (triple_any s k wr hs hk)
    cases ht : tri s k
    ·have HB := Lib.hid (decVal_bad (HD.out.symm.trans (decF_bad hlt h37 ht)))
     clear h37
     go_wp2_with fail
     refine HT.out.mono ?_
     rintro e w1 ⟨v, rfl, _, q, rfl⟩
     rw [ht]
     go_wp2
     go_ret3
     exact ⟨by rw [HB.out]; rfl, below_drewN hbw q⟩
    ·have HS := Lib.hid ((decF_tri (acc := acc) ht).symm.trans HD.out)
     have HV := Lib.hid (triB_bt ht)
     have h3 := (tri_iff.1 ht).1
     clear h37
     go_wp2_with fail
     refine HT.out.mono ?_
     rintro e w1 ⟨v, rfl, hv, q, rfl⟩
     have hv := hv ht
     rw [← HV.out] at hv
     rw [ht, hv]
     clear hv
     have ho1 := ho.drewN q
     unfold OwnB at ho1
     go_wp2_with (at_builtin; refine wpList_append_own _ rfl _ _ 120 rfl w.heap.size 5 i0 (.int .u8 0) 1 1 Tryz.underlying120 hi0 hz0 hz1 hz2 rfl (by decide) _ _ _ rfl (ho1.alloc _) ⟨wr.heap.size, 0, none⟩ 1 1 [byteV (triB s k)] rfl rfl (cell_one_new _ _ _) ?c1 ?c2 ?c3 ?c4 ?c5)
     case c1 => exact bytes_oneCell [_]
     case c2 => unfold maxLen; omega
     case c3 => omega
     case c4 => simp; have := hbw.size; omega
     case c5 =>
      intro v' w2 hown2 hg2 _
      have hb2 : Below w.heap.size w w2 := ((below_drewN hbw q).alloc (below_drewN hbw q).size _).grown hg2 (by simp; have := hbw.size; omega) (own_lt ho1)
      have ho2 : OwnB w2 w.heap.size v' (acc ++ [triB s k]) := by
       unfold OwnB
       rw [List.length_append, List.map_append]
       exact hown2
      clear hown2 hg2 ho ho1
      go_wp2
      go_roundw
      case rel => exact ⟨k + 3, _, by omega, by go_num, ho2, by simp; omega, HS.out, hb2⟩
      case measure => simp [RowKit.intOf]; omega
   ·have hne : (bt s k != 37) = true := by simpa using h37
    have HS := Lib.hid ((decF_on (acc := acc) hlt h37).symm.trans HD.out)
    have ho1 := ho
    unfold OwnB at ho1
    clear h37
    go_wp2_with (at_builtin; refine wpList_append_own _ rfl _ _ 120 rfl w.heap.size 5 i0 (.int .u8 0) 1 1 Tryz.underlying120 hi0 hz0 hz1 hz2 rfl (by decide) _ _ _ rfl (ho1.alloc _) ⟨wr.heap.size, 0, none⟩ 1 1 [byteV (byteAt s k)] rfl rfl (cell_one_new _ _ _) ?d1 ?d2 ?d3 ?d4 ?d5)
    case d1 => exact bytes_oneCell [_]
    case d2 => unfold maxLen; omega
    case d3 => omega
    case d4 => simp; have := hbw.size; omega
    case d5 =>
     intro v' w2 hown2 hg2 _
     have hb2 : Below w.heap.size w w2 := (hbw.alloc hbw.size _).grown hg2 (by simp; have := hbw.size; omega) (own_lt ho1)
     have ho2 : OwnB w2 w.heap.size v' (acc ++ [byteAt s k]) := by
      unfold OwnB
      rw [List.length_append, List.map_append]
      exact hown2
     clear hown2 hg2 ho ho1
     go_wp2
     go_roundw
     case rel => exact ⟨k + 1, _, by omega, by go_num, ho2, by simp; omega, HS.out, hb2⟩
     case measure => simp [RowKit.intOf]; omega
  ·obtain rfl : k = s.size := by omega
   have HB := Lib.hid (decVal_ok (HD.out.symm.trans (decF_end (acc := acc) (Nat.le_refl _))))
   have hcv := ho.conv
   go_wp2
   go_ret3
   exact ⟨by rw [HB.out]; rfl, hbw⟩
end Go.Proofs.YtiohmnhbmmhnhaaGreatDoor
