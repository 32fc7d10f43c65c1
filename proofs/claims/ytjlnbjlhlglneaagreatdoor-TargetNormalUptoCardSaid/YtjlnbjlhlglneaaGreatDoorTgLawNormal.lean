/-
  The walk of TargetNormal.
-/
import Derived.Test.YtjlnbjlhlglneaaGreatDoorTgRn
import Derived.Test.YtjlnbjlhlglneaaGreatDoorTgAw
namespace Go.Proofs.YtjlnbjlhlglneaaGreatDoor
open Go.RowKit Go.Shelf Go.Lib

theorem Segments_any (s : ByteArray) (w : World) (hs : s.size ≤ 4194304) (hg : Glob w) :
    Calls Tryz.prog 18 #[.string s] w (GivesSegs w (segR s)) := by
  cases hp : isPathB s
  · exact Segments_no s w hs hp
  · exact Segments_yes s w hs hg hp
theorem segR_len (s : ByteArray) : (segR s).1.length ≤ s.size + 1 := by
  unfold segR
  split
  · show ((splitC (behind1 s) 47).map _).length ≤ _
    rw [List.length_map]
    have h1 := splitC_len (behind1 s) 47
    have h2 : (behind1 s).size ≤ s.size := by unfold behind1; rw [ByteArray.size_extract]; omega
    omega
  · exact Nat.zero_le _
set_option maxRecDepth 100000 in
set_option maxHeartbeats 4000000 in
theorem TargetNormal_walk (s : ByteArray) (w : World) (_hs : s.size ≤ maxLen) (hk : s.size ≤ 1048576) (hg : Glob w) :
    Calls Tryz.prog 8 #[.string s] w fun e w' => e = .returned (.bool true) ∧ Below w.heap.size w w' := by
  have HA := Lib.hid (fun w hg => Normal_any s w (by omega) hg)
  have HB := Lib.hid (fun w => rNormal_any s w (by omega))
  have HC := Lib.hid (fun w hg => Segments_any s w (by omega) hg)
  have HD := Lib.hid (fun w => rSegments_any s w (by omega))
  have hl := segR_len s
  unfold normVal at HA HB
  generalize normR s = r at *
  generalize segR s = g at *
  obtain ⟨a, ea⟩ := r
  obtain ⟨l, el⟩ := g
  dsimp only at HA HB hl
  go_enter Tryz.func8, Tryz.ntmps8
  go_wp2_with fail
  refine (HA.out _ hg).mono ?_
  rintro e w1 ⟨rfl, b1⟩
  go_wp2_with fail
  refine (HB.out _).mono ?_
  rintro e w2 ⟨rfl, b2⟩
  have hb2 := b1.trans (b2.mono b1.size)
  have hg2 := hg.beyond hb2
  clear b1 b2
  go_wp2_with fail
  refine (HC.out _ hg2).mono ?_
  rintro e w3 ⟨A1, c1, rfl, o1, b3⟩
  dsimp only at o1
  dsimp only
  have hb3 := hb2.trans (b3.mono hb2.size)
  clear b3 hb2 hg2
  go_wp2_with fail
  refine (HD.out _).mono ?_
  rintro e w4 ⟨A2, c2, rfl, o2, b4⟩
  dsimp only at o2
  dsimp only
  have r1 := (own_row o1).below b4
  have r2 := own_row o2
  have hb4 := hb3.trans (b4.mono hb3.size)
  clear o1 o2 b4 hb3
  go_wp2_with fail
  refine (awake_any _).mono ?_
  rintro e w5 ⟨rfl, b5⟩
  have r1 := r1.below b5
  have r2 := r2.below b5
  have hb5 := hb4.trans (b5.mono hb4.size)
  clear b5 hb4
  go_wp2_with fail
  refine (same_same A1 A2 c1 c2 l _ r1 r2 (by omega)).mono ?_
  rintro e w6 ⟨rfl, q, rfl⟩
  have hb6 := below_drewN hb5 q
  go_wp2
  go_ret
  exact ⟨rfl, hb6⟩
end Go.Proofs.YtjlnbjlhlglneaaGreatDoor
