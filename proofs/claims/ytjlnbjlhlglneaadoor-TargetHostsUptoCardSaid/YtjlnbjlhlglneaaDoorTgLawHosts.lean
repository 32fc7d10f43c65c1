/-
  The walk of TargetHosts.
-/
import Derived.Test.YtjlnbjlhlglneaaDoorTgHp
import Derived.Test.YtjlnbjlhlglneaaDoorTgAw
namespace Go.Proofs.YtjlnbjlhlglneaaDoor
open Go.RowKit Go.Shelf Go.Lib

set_option maxRecDepth 100000 in
set_option maxHeartbeats 4000000 in
theorem TargetHosts_walk (s : ByteArray) (w : World) (_hs : s.size ≤ maxLen) (hk : s.size ≤ 1048576) (hg : Glob w) :
    Calls Tryd.prog 4 #[.string s] w fun e w' => e = .returned (.bool true) ∧ Below w.heap.size w w' := by
  have HA := Lib.hid (Authority_any s w (by omega) hg)
  have HP := Lib.hid (fun w => HostPort_any s w (by omega))
  unfold authVal at HA HP
  generalize authR s = r at *
  obtain ⟨a, i, er⟩ := r
  dsimp only at HA HP
  go_enter Tryd.func4, Tryd.ntmps4
  go_wp2_with fail
  refine HA.out.mono ?_
  rintro e w1 ⟨rfl, b1⟩
  go_wp2_with fail
  refine (HP.out _).mono ?_
  rintro e w2 ⟨rfl, b2⟩
  have B2 := b1.trans (b2.mono b1.size)
  clear b1 b2
  go_wp2_with fail
  refine (awake_any _).mono ?_
  rintro e w3 ⟨rfl, b3⟩
  have B3 := B2.trans (b3.mono B2.size)
  clear B2 b3
  go_wp2
  go_ret
  exact ⟨rfl, B3⟩
end Go.Proofs.YtjlnbjlhlglneaaDoor
