/-
 RxLawChecks, without what this claim does not reach.
-/
import Derived.Test.YtiohmnhbmmhnhaaGreatDoorZRlF
import Derived.Test.YtiohmnhbmmhnhaaGreatDoorZRxC
namespace Go.Proofs.YtiohmnhbmmhnhaaGreatDoor
open Go.RowKit Go.Shelf Go.Lib
set_option maxRecDepth 20000 in
set_option maxHeartbeats 1000000 in
theorem rCheck_any (s : ByteArray) (w : World) (hs : s.size ≤ 4194304) :
  Calls Tryz.prog 40 #[.string s] w fun e w' => e = .returned (chkVal (checkP s)) ∧ Below w.heap.size w w' := by
 have HR := Lib.hid (rcheck_any s w hs)
 go_enter Tryz.func40, Tryz.ntmps40
 go_wp2_with fail
 refine HR.out.mono ?_
 rintro e w1 ⟨p, er, rfl, h, hb⟩
 have HH := Lib.hid h
 clear h HR
 by_cases hp : 1024 < p
 ·have hc := HH.out
  rw [if_pos hp] at hc
  have HC := Lib.hid hc
  clear hc HH
  go_wp2
  go_ret2
  exact ⟨by rw [← HC.out]; rfl, hb⟩
 ·have hc := HH.out
  rw [if_neg hp] at hc
  have HC := Lib.hid hc
  clear hc HH
  go_wp2
  go_ret2
  exact ⟨by rw [← HC.out]; rfl, hb⟩
end Go.Proofs.YtiohmnhbmmhnhaaGreatDoor
