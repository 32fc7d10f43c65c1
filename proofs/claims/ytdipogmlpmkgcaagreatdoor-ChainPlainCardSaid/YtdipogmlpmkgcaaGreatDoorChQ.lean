/-
  The usual reason of a status as the document tells it: the walk.
-/
import Derived.Test.YtdipogmlpmkgcaaGreatDoorChP
import Derived.Test.YtdipogmlpmkgcaaGreatDoorChD
import Derived.Deep.RegionHeld3
namespace Go.Proofs.YtdipogmlpmkgcaaGreatDoor
open Go.RowKit Go.Shelf Go.Lib

theorem refReason_hit (D : ByteArray) (j : Nat) (hj : j < 787) (h : hitB D j = true) (hn : ∀ k, k < j → hitB D k = false) : refReason D = resT.extract (frm j + 4) j := by
  unfold refReason
  rw [(List.find?_range_eq_some (n := 787) (i := j) (p := hitB D)).2 ⟨h, List.mem_range.2 hj, fun k hk => by rw [hn k hk]; rfl⟩]
theorem refReason_non {D : ByteArray} (hn : ∀ k, k < 787 → hitB D k = false) : refReason D = ⟨#[]⟩ := by
  unfold refReason
  rw [List.find?_eq_none.2 fun k hk => by rw [hn k (List.mem_range.1 hk)]; decide]
set_option maxRecDepth 20000 in
set_option maxHeartbeats 4000000 in
theorem resT_form : (⟨((((([49, 48, 48, 32, 67, 111, 110, 116, 105, 110, 117, 101, 124, 49, 48, 49, 32, 83, 119, 105, 116, 99, 104, 105, 110, 103, 32, 80, 114, 111, 116, 111, 99, 111, 108, 115, 124, 50, 48, 48, 32, 79, 75, 124, 50, 48, 49, 32, 67] : List UInt8).append [114, 101, 97, 116, 101, 100, 124, 50, 48, 50, 32, 65, 99, 99, 101, 112, 116, 101, 100, 124, 50, 48, 52, 32, 78, 111, 32, 67, 111, 110, 116, 101, 110, 116, 124, 50, 48, 54, 32, 80, 97, 114, 116, 105, 97, 108, 32, 67, 111]).append (([110, 116, 101, 110, 116, 124, 51, 48, 49, 32, 77, 111, 118, 101, 100, 32, 80, 101, 114, 109, 97, 110, 101, 110, 116, 108, 121, 124, 51, 48, 50, 32, 70, 111, 117, 110, 100, 124, 51, 48, 51, 32, 83, 101, 101, 32, 79, 116, 104] : List UInt8).append [101, 114, 124, 51, 48, 52, 32, 78, 111, 116, 32, 77, 111, 100, 105, 102, 105, 101, 100, 124, 51, 48, 55, 32, 84, 101, 109, 112, 111, 114, 97, 114, 121, 32, 82, 101, 100, 105, 114, 101, 99, 116, 124, 51, 48, 56, 32, 80, 101])).append ((([114, 109, 97, 110, 101, 110, 116, 32, 82, 101, 100, 105, 114, 101, 99, 116, 124, 52, 48, 48, 32, 66, 97, 100, 32, 82, 101, 113, 117, 101, 115, 116, 124, 52, 48, 49, 32, 85, 110, 97, 117, 116, 104, 111, 114, 105, 122, 101, 100] : List UInt8).append [124, 52, 48, 51, 32, 70, 111, 114, 98, 105, 100, 100, 101, 110, 124, 52, 48, 52, 32, 78, 111, 116, 32, 70, 111, 117, 110, 100, 124, 52, 48, 53, 32, 77, 101, 116, 104, 111, 100, 32, 78, 111, 116, 32, 65, 108, 108, 111, 119]).append (([101, 100, 124, 52, 48, 54, 32, 78, 111, 116, 32, 65, 99, 99, 101, 112, 116, 97, 98, 108, 101, 124, 52, 48, 56, 32, 82, 101, 113, 117, 101, 115, 116, 32, 84, 105, 109, 101, 111, 117, 116, 124, 52, 49, 49, 32, 76, 101, 110] : List UInt8).append [103, 116, 104, 32, 82, 101, 113, 117, 105, 114, 101, 100, 124, 52, 49, 50, 32, 80, 114, 101, 99, 111, 110, 100, 105, 116, 105, 111, 110, 32, 70, 97, 105, 108, 101, 100, 124, 52, 49, 51, 32, 67, 111, 110, 116, 101, 110, 116, 32, 84]))).append (((([111, 111, 32, 76, 97, 114, 103, 101, 124, 52, 49, 52, 32, 85, 82, 73, 32, 84, 111, 111, 32, 76, 111, 110, 103, 124, 52, 49, 53, 32, 85, 110, 115, 117, 112, 112, 111, 114, 116, 101, 100, 32, 77, 101, 100, 105, 97, 32, 84] : List UInt8).append [121, 112, 101, 124, 52, 49, 54, 32, 82, 97, 110, 103, 101, 32, 78, 111, 116, 32, 83, 97, 116, 105, 115, 102, 105, 97, 98, 108, 101, 124, 52, 49, 55, 32, 69, 120, 112, 101, 99, 116, 97, 116, 105, 111, 110, 32, 70, 97, 105]).append (([108, 101, 100, 124, 52, 50, 49, 32, 77, 105, 115, 100, 105, 114, 101, 99, 116, 101, 100, 32, 82, 101, 113, 117, 101, 115, 116, 124, 52, 50, 50, 32, 85, 110, 112, 114, 111, 99, 101, 115, 115, 97, 98, 108, 101, 32, 67, 111, 110] : List UInt8).append [116, 101, 110, 116, 124, 52, 50, 54, 32, 85, 112, 103, 114, 97, 100, 101, 32, 82, 101, 113, 117, 105, 114, 101, 100, 124, 52, 50, 56, 32, 80, 114, 101, 99, 111, 110, 100, 105, 116, 105, 111, 110, 32, 82, 101, 113, 117, 105, 114, 101])).append ((([100, 124, 52, 50, 57, 32, 84, 111, 111, 32, 77, 97, 110, 121, 32, 82, 101, 113, 117, 101, 115, 116, 115, 124, 52, 51, 49, 32, 82, 101, 113, 117, 101, 115, 116, 32, 72, 101, 97, 100, 101, 114, 32, 70, 105, 101, 108, 100, 115] : List UInt8).append [32, 84, 111, 111, 32, 76, 97, 114, 103, 101, 124, 53, 48, 48, 32, 73, 110, 116, 101, 114, 110, 97, 108, 32, 83, 101, 114, 118, 101, 114, 32, 69, 114, 114, 111, 114, 124, 53, 48, 49, 32, 78, 111, 116, 32, 73, 109, 112, 108]).append (([101, 109, 101, 110, 116, 101, 100, 124, 53, 48, 50, 32, 66, 97, 100, 32, 71, 97, 116, 101, 119, 97, 121, 124, 53, 48, 51, 32, 83, 101, 114, 118, 105, 99, 101, 32, 85, 110, 97, 118, 97, 105, 108, 97, 98, 108, 101, 124, 53] : List UInt8).append [48, 52, 32, 71, 97, 116, 101, 119, 97, 121, 32, 84, 105, 109, 101, 111, 117, 116, 124, 53, 48, 53, 32, 72, 84, 84, 80, 32, 86, 101, 114, 115, 105, 111, 110, 32, 78, 111, 116, 32, 83, 117, 112, 112, 111, 114, 116, 101, 100, 124])))).toArray⟩ : ByteArray) = resT := by kernel_rfl
theorem below_drew {B : Nat} {w w' : World} (h : Below B w w') : Below B w w'.drew := ⟨h.os, h.tape, h.output, h.size, h.block⟩
theorem hit_no {D : ByteArray} {j : Nat} (h : ¬ bt resT j = 124) : hitB D j = false := by
  unfold hitB
  rw [decide_eq_false h]; rfl
theorem hit_other {D : ByteArray} {j : Nat} (h : ¬ resT.extract (frm j) (frm j + 3) = D) : hitB D j = false := by
  unfold hitB
  rw [decide_eq_false h, Bool.and_false]
theorem hit_yes {D : ByteArray} {j : Nat} (h : bt resT j = 124) (h2 : resT.extract (frm j) (frm j + 3) = D) : hitB D j = true := by
  unfold hitB
  rw [decide_eq_true h, decide_eq_true h2]; rfl
set_option maxRecDepth 20000 in
set_option maxHeartbeats 4000000 in
theorem rReason_any (n : Int) (w : World) (h1 : n ≤ 9223372036854775807) :
    Calls Tryz.prog 14 #[.int .i64 n] w fun e w' => e = .returned (.string (refReason (dig12 n))) ∧ Below w.heap.size w w' := by
  have HD : ∀ w : World, Calls Tryz.prog 22 #[.int .i64 n] w fun e w' => e = .returned (.string (dig12 n)) ∧ Below w.heap.size w w' := fun w => dig12_any n w h1
  have HD := Lib.hid HD
  generalize hDD : dig12 n = D at *
  clear hDD
  have HN := Lib.hid (refReason_non (D := D))
  have HH := Lib.hid (refReason_hit D)
  have HE := Lib.hid res_entries
  have hsz := resT_size
  go_enter Tryz.func14, Tryz.ntmps14
  rw [resT_form]
  generalize hR : resT = R at *
  go_wp2
  go_loopw [4, 5] (fun v i wr => ∃ k : Nat, k ≤ 787 ∧ v = .int .i64 (frm k : Int) ∧ i = .int .i64 (k : Int) ∧ Below w.heap.size w wr ∧ ∀ j, j < k → hitB D j = false) (fun _ i _ => 787 - (RowKit.intOf i).toNat)
  case atStart => exact ⟨0, by omega, rfl, rfl, Below.refl _ _, fun j hj => absurd hj (by omega)⟩
  case round =>
    obtain ⟨k, hk, rfl, rfl, hbw, hno⟩ := hrel
    have HO := Lib.hid hno
    clear hno
    by_cases hlt : k < 787
    · have hks : k < R.size := by omega
      have hki : (k : Int) < (R.size : Int) := by omega
      have hfk := frm_le k
      by_cases hbar : bt R k = 124
      · have hnb : ((R[k].toNat : Int) != 124) = false := by rw [show ((R[k].toNat : Nat) : Int) = bt R k from bt_eq hks, hbar]; rfl
        have HB := Lib.hid hbar
        have h4 := (HE.out k hlt hbar).1
        clear hbar
        have HF := Lib.hid (frm_bar (i := k))
        obtain ⟨f, hf⟩ : ∃ f, f = frm k := ⟨_, rfl⟩
        have HFK := Lib.hid hf
        rw [← hf] at hfk h4 ⊢
        clear hf
        have hw3 : IntKind.i64.wrap ((f : Int) + 3) = (f : Int) + 3 := IntWalk.i64_in _ (by omega)
        have hw4 : IntKind.i64.wrap ((f : Int) + 4) = (f : Int) + 4 := IntWalk.i64_in _ (by omega)
        have ht3 : ((f : Int) + 3).toNat = f + 3 := by omega
        have ht4 : ((f : Int) + 4).toNat = f + 4 := by omega
        have hf0 : (0 : Int) ≤ (f : Int) := by omega
        have hf3 : (0 : Int) ≤ (f : Int) + 3 := by omega
        have hff3 : (f : Int) ≤ (f : Int) + 3 := by omega
        have hsl : (f : Int) + 3 ≤ 787 := by omega
        have hsn : f + 3 ≤ 787 := by omega
        cases hx : ((R.extract f (f + 3)).toList == D.toList)
        · have HX := Lib.hid (show hitB D k = false by
            refine hit_other ?_
            rw [← HFK.out, hR]
            exact fun e => by rw [e] at hx; simp at hx)
          go_wp2_with fail
          go_region_held3 (fun _ => True) (trivial) ((go_at_call 22; (with_reducible refine (HD.out _).mono ?_); rintro e w2 ⟨rfl, b2⟩))
          all_goals
            have hb3 := (below_drew hbw).trans (b2.mono (below_drew hbw).size)
            go_wp2
            go_roundw
            case rel => exact ⟨k + 1, by omega, by rw [HF.out (by rw [hR]; exact HB.out)]; go_num, by go_num, hb3, fun j hj => by
              rcases Nat.lt_succ_iff_lt_or_eq.1 hj with h | rfl
              · exact HO.out j h
              · exact HX.out⟩
            case measure => simp [RowKit.intOf]; omega
        · have HX := Lib.hid (show refReason D = R.extract (f + 4) k by
            have he : R.extract f (f + 3) = D := of_decide_eq_true ((eq_str _ _).symm.trans hx)
            have h5 := HH.out k hlt (hit_yes (by rw [hR]; exact HB.out) (by rw [hR, ← HFK.out]; exact he)) HO.out
            rw [h5, ← HFK.out])
          have hsl2 : (f : Int) + 4 ≤ (k : Int) := by omega
          have hsl3 : (k : Int) ≤ 787 := by omega
          have hsl4 : f + 4 ≤ k := h4
          have hsl5 : k ≤ 787 := by omega
          go_wp2_with fail
          go_region_held3 (fun _ => True) (trivial) ((go_at_call 22; (with_reducible refine (HD.out _).mono ?_); rintro e w2 ⟨rfl, b2⟩))
          all_goals
            have hb3 := (below_drew hbw).trans (b2.mono (below_drew hbw).size)
            go_wp2
            go_ret
            exact ⟨ret_str HX.out.symm, hb3⟩
      · have hnb : ((R[k].toNat : Int) != 124) = true := by rw [show ((R[k].toNat : Nat) : Int) = bt R k from bt_eq hks, bne_iff_ne]; exact hbar
        have HX := Lib.hid (show hitB D k = false from hit_no (by rw [hR]; exact hbar))
        have HF := Lib.hid (frm_on (i := k) (by rw [hR]; exact hbar))
        clear hbar
        go_wp2
        go_roundw
        case rel => exact ⟨k + 1, by omega, by rw [HF.out], by go_num, hbw, fun j hj => by
          rcases Nat.lt_succ_iff_lt_or_eq.1 hj with h | rfl
          · exact HO.out j h
          · exact HX.out⟩
        case measure => simp [RowKit.intOf]; omega
    · obtain rfl : k = 787 := by omega
      go_wp2
      go_ret
      exact ⟨ret_str (HN.out HO.out).symm, hbw⟩
end Go.Proofs.YtdipogmlpmkgcaaGreatDoor
