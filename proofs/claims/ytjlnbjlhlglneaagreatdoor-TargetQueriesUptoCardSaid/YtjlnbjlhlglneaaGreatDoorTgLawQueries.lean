/-
  The walk of TargetQueries.
-/
import Derived.Test.YtjlnbjlhlglneaaGreatDoorTgQ
import Derived.Test.YtjlnbjlhlglneaaGreatDoorTgAw
namespace Go.Proofs.YtjlnbjlhlglneaaGreatDoor
open Go.RowKit Go.Shelf Go.Lib

theorem queryR_len (s : ByteArray) : (queryR s).1.length ≤ s.size + 1 := by
  unfold queryR
  split
  · exact Nat.zero_le _
  · exact Nat.le_trans (pairsL_length _) (splitC_len s 38)
set_option maxRecDepth 100000 in
set_option maxHeartbeats 4000000 in
theorem TargetQueries_walk (s : ByteArray) (w : World) (_hs : s.size ≤ maxLen) (hk : s.size ≤ 1048576) (hg : Glob w) :
    Calls Tryz.prog 4 #[.string s] w fun e w' => e = .returned (.bool true) ∧ Below w.heap.size w w' := by
  have HP := Lib.hid (Query_any s w (by omega) hg)
  have HR := Lib.hid (fun w => rQuery_any s w (by omega))
  have hl := queryR_len s
  generalize queryR s = r at *
  obtain ⟨l, i, er⟩ := r
  dsimp only at hl
  go_enter Tryz.func4, Tryz.ntmps4
  go_wp2_with fail
  refine HP.out.mono ?_
  rintro e w1 ⟨A1, c1, rfl, o1, b1⟩
  dsimp only at o1
  dsimp only
  go_wp2_with fail
  refine (HR.out _).mono ?_
  rintro e w2 ⟨A2, c2, rfl, o2, b2⟩
  dsimp only at o2
  dsimp only
  have r1 := (own_row o1).below b2
  have hb2 := b1.trans (b2.mono b1.size)
  have r2 := own_row o2
  clear o1 o2 b1 b2
  go_wp2_with fail
  refine (awake_any _).mono ?_
  rintro e w3 ⟨rfl, b3⟩
  have r1 := r1.below b3
  have r2 := r2.below b3
  have hb3 := hb2.trans (b3.mono hb2.size)
  clear b3 hb2
  go_wp2_with fail
  refine (pairs_same A1 A2 c1 c2 l _ r1 r2 (by omega)).mono ?_
  rintro e w4 ⟨rfl, q, rfl⟩
  have hb4 := below_drewN hb3 q
  go_wp2
  go_ret
  exact ⟨rfl, hb4⟩
end Go.Proofs.YtjlnbjlhlglneaaGreatDoor
