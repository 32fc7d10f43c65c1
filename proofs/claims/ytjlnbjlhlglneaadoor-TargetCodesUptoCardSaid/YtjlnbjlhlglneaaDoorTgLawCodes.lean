/-
  The walk of TargetCodes.
-/
import Derived.Test.YtjlnbjlhlglneaaDoorTgAw
namespace Go.Proofs.YtjlnbjlhlglneaaDoor
open Go.RowKit Go.Shelf Go.Lib

set_option maxRecDepth 100000 in
set_option maxHeartbeats 4000000 in
theorem TargetCodes_walk (s : ByteArray) (w : World) (_hs : s.size ≤ maxLen) (hk : s.size ≤ 1048576) (_hg : Glob w) :
    Calls Tryd.prog 5 #[.string s] w fun e w' => e = .returned (.bool true) ∧ Below w.heap.size w w' := by
  have HD := Lib.hid (fun w => Decode_any s w (by omega))
  have HR := Lib.hid (fun w => rDecode_any s w (by omega))
  have HE := Lib.hid (fun w => Encode_any s w (by omega))
  have HF := Lib.hid (fun w => rEncode_any s w (by omega))
  unfold decVal at HD HR
  generalize enc s = z at *
  generalize decR s = r at *
  obtain ⟨a, i, er⟩ := r
  dsimp only at HD HR
  go_enter Tryd.func5, Tryd.ntmps5
  go_wp2_with fail
  refine (HD.out _).mono ?_
  rintro e w1 ⟨rfl, b1⟩
  go_wp2_with fail
  refine (HR.out _).mono ?_
  rintro e w2 ⟨rfl, b2⟩
  have B2 := b1.trans (b2.mono b1.size)
  clear b1 b2
  go_wp2_with fail
  refine (awake_any _).mono ?_
  rintro e w3 ⟨rfl, b3⟩
  have B3 := B2.trans (b3.mono B2.size)
  clear B2 b3
  go_wp2_with fail
  refine (HE.out _).mono ?_
  rintro e w4 ⟨rfl, b4⟩
  have B4 := B3.trans (b4.mono B3.size)
  clear B3 b4
  go_wp2_with fail
  refine (HF.out _).mono ?_
  rintro e w5 ⟨rfl, b5⟩
  have B5 := B4.trans (b5.mono B4.size)
  clear B4 b5
  go_wp2
  go_ret
  exact ⟨rfl, B5⟩
end Go.Proofs.YtjlnbjlhlglneaaDoor
