/-
  The walk of TargetDecodes.
-/
import Derived.Test.YtjlnbjlhlglneaaDoorTgAw
import Derived.Test.YtjlnbjlhlglneaaDoorTgD
namespace Go.Proofs.YtjlnbjlhlglneaaDoor
open Go.RowKit Go.Shelf Go.Lib

theorem encSign_rest {c : Int} (h : encSign c = true) (h37 : ¬ c = 37) : unres c = true := by
  unfold encSign at h
  rw [decide_eq_false h37] at h
  exact h
set_option maxRecDepth 100000 in
set_option maxHeartbeats 4000000 in
theorem TargetDecodes_walk (s : ByteArray) (w : World) (_hs : s.size ≤ maxLen) (hk : s.size ≤ 1048576) (_hg : Glob w) :
    Calls Tryd.prog 6 #[.string s] w fun e w' => e = .returned (.bool true) ∧ Below w.heap.size w w' := by
  have hz := enc_size s
  have HE := Lib.hid (fun w => Encode_any s w (by omega))
  have HD := Lib.hid (fun w => Decode_any (enc s) w (by omega))
  have HS := Lib.hid (allB_at (enc_signs s))
  unfold decVal at HD
  rw [decR_enc] at HD
  dsimp only at HD
  rw [show ((0 : Nat) : Int) = 0 from rfl] at HD
  generalize enc s = t at *
  have hss : (s.toList == s.toList) = true := by simp
  go_enter Tryd.func6, Tryd.ntmps6
  go_wp2_with fail
  refine (HE.out _).mono ?_
  rintro e w1 ⟨rfl, b1⟩
  go_wp2_with fail
  refine (HD.out _).mono ?_
  rintro e w2 ⟨rfl, b2⟩
  have B2 := b1.trans (b2.mono b1.size)
  clear b1 b2
  go_wp2
  go_loop [7] (fun v => ∃ k : Nat, k ≤ t.size ∧ v = .int .i64 k) (fun v => t.size - (RowKit.intOf v).toNat)
  case atStart => exact ⟨0, by omega, rfl⟩
  case round =>
    obtain ⟨k, hk, rfl⟩ := hrel
    by_cases hlt : k < t.size
    · have hb := @bt_eq t k hlt
      by_cases h37 : bt t k = 37
      · have hne : (bt t k != 37) = false := by rw [h37]; rfl
        clear h37
        go_wp2
        go_round
        case rel => exact ⟨k + 1, by omega, by go_num⟩
        case measure => simp [RowKit.intOf]; omega
      · have hne : (bt t k != 37) = true := by simpa using h37
        have HU := Lib.hid (fun w => rUnres_any (bt t k) w)
        rw [encSign_rest (HS.out k hlt) h37] at HU
        clear h37
        go_wp2_with fail
        refine (HU.out _).mono ?_
        rintro e w' ⟨rfl, rfl⟩
        go_wp2
        go_round
        case rel => exact ⟨k + 1, by omega, by go_num⟩
        case measure => simp [RowKit.intOf]; omega
    · obtain rfl : k = t.size := by omega
      go_wp2_with fail
      refine (awake_any _).mono ?_
      rintro e w3 ⟨rfl, b3⟩
      go_wp2
      go_ret
      exact ⟨rfl, B2.trans (b3.mono B2.size)⟩
end Go.Proofs.YtjlnbjlhlglneaaDoor
