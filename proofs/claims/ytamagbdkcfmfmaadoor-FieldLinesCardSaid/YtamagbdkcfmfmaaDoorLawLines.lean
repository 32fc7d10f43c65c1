/-
  The walk of FieldLines: for every line the program's ParseLine answers what the reference's does.
-/
import Derived.Test.YtamagbdkcfmfmaaDoorAll
import Derived.Test.YtamagbdkcfmfmaaDoorRpline
namespace Go.Proofs.YtamagbdkcfmfmaaDoor
open Go.RowKit Go.Shelf Go.Lib

set_option maxRecDepth 20000 in
set_option maxHeartbeats 1000000 in
theorem FieldLines_walk (s : ByteArray) (w : World) (hs : s.size ≤ maxLen) (hg : Glob w) :
    Calls Tryd.prog 3 #[.string s] w fun e w' => e = .returned (.bool true) ∧ Below w.heap.size w w' := by
  have hP := fun w hg => ParseLine_any s w hs hg
  have hR := fun w => rParseLine_any s w hs
  generalize parseLine s = r at hP hR
  obtain ⟨x, y, i, k⟩ := r
  unfold plVal at hP hR
  have HP := Lib.hid hP
  have HR := Lib.hid hR
  clear hP hR
  go_enter Tryd.func3, Tryd.ntmps3
  go_wp2_with fail
  refine (awake_any w hg).mono ?_
  rintro e w1 ⟨rfl, hb1⟩
  have hg1 := hg.beyond hb1
  go_wp2_with fail
  refine (HP.out w1 hg1).mono ?_
  rintro e w2 ⟨rfl, hb2⟩
  go_wp2_with fail
  refine (HR.out _).mono ?_
  rintro e w3 ⟨rfl, hb3⟩
  obtain ⟨⟨hc0, hc1⟩, _, hz⟩ := box2 (by simpa using hb3)
  have hbw : Below w.heap.size w w3 := hb1.trans ((hb2.trans ((below_box (by simpa using hb3)).mono hb2.size)).mono hb1.size)
  clear hb3 hb1 hb2
  go_wp2
  go_ret
  exact ⟨rfl, hbw.alloc hbw.size _⟩
end Go.Proofs.YtamagbdkcfmfmaaDoor
