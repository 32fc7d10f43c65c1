/-
  The walk of TargetResolves.
-/
import Derived.Test.YtjlnbjlhlglneaaGreatDoorTgRe
import Derived.Test.YtjlnbjlhlglneaaGreatDoorTgAw
namespace Go.Proofs.YtjlnbjlhlglneaaGreatDoor
open Go.RowKit Go.Shelf Go.Lib

set_option maxRecDepth 100000 in
set_option maxHeartbeats 4000000 in
theorem TargetResolves_walk (s r : ByteArray) (w : World) (_hs : s.size ≤ maxLen) (_hr : r.size ≤ maxLen) (hk : s.size + r.size ≤ 1048576) (hg : Glob w) :
    Calls Tryz.prog 6 #[.string s, .string r] w fun e w' => e = .returned (.bool true) ∧ Below w.heap.size w w' := by
  have HA := Lib.hid (Resolve_any s r w (by omega) hg)
  have HB := Lib.hid (fun w => rResolve_any s r w (by omega))
  unfold resVal at HA HB
  generalize resR s r = g at *
  obtain ⟨a, ea⟩ := g
  dsimp only at HA HB
  go_enter Tryz.func6, Tryz.ntmps6
  go_wp2_with fail
  refine HA.out.mono ?_
  rintro e w1 ⟨rfl, b1⟩
  go_wp2_with fail
  refine (HB.out _).mono ?_
  rintro e w2 ⟨rfl, b2⟩
  have hb2 := b1.trans (b2.mono b1.size)
  clear b1 b2
  go_wp2_with fail
  refine (awake_any _).mono ?_
  rintro e w3 ⟨rfl, b3⟩
  have hb3 := hb2.trans (b3.mono hb2.size)
  clear b3 hb2
  go_wp2
  go_ret
  exact ⟨rfl, hb3⟩
end Go.Proofs.YtjlnbjlhlglneaaGreatDoor
