/-
  The walk of RadixChecks.
-/
import Derived.Test.YteciaomjpafaiaaRxFd
import Derived.Test.YteciaomjpafaiaaRxC
namespace Go.Proofs.Yteciaomjpafaiaa
open Go.RowKit Go.Shelf Go.Lib

set_option maxRecDepth 20000 in
set_option maxHeartbeats 1000000 in
/-- The reference's check. -/
theorem rCheck_any (s : ByteArray) (w : World) (hs : s.size ≤ 4194304) :
    Calls Try.prog 14 #[.string s] w fun e w' => e = .returned (chkVal (checkP s)) ∧ Below w.heap.size w w' := by
  have HR := Lib.hid (rcheck_any s w hs)
  go_enter Try.func14, Try.ntmps14
  go_wp2_with fail
  refine HR.out.mono ?_
  rintro e w1 ⟨p, er, rfl, h, hb⟩
  have HH := Lib.hid h
  clear h HR
  by_cases hp : 1024 < p
  · have hc := HH.out
    rw [if_pos hp] at hc
    have HC := Lib.hid hc
    clear hc HH
    go_wp2
    go_ret2
    exact ⟨by rw [← HC.out]; rfl, hb⟩
  · have hc := HH.out
    rw [if_neg hp] at hc
    have HC := Lib.hid hc
    clear hc HH
    go_wp2
    go_ret2
    exact ⟨by rw [← HC.out]; rfl, hb⟩
set_option maxRecDepth 20000 in
set_option maxHeartbeats 4000000 in
theorem RadixChecks_walk (s : ByteArray) (w : World) (_hs : s.size ≤ maxLen) (hk : s.size ≤ 1048576) (hg : Glob w) :
    Calls Try.prog 4 #[.string s] w fun e w' => e = .returned (.bool true) ∧ Below w.heap.size w w' := by
  have HC := Lib.hid (fun w => Check_any s w (by omega))
  have HR := Lib.hid (fun w => rCheck_any s w (by omega))
  unfold chkVal at HC HR
  generalize checkP s = r at *
  obtain ⟨p, er⟩ := r
  dsimp only at HC HR
  have HG := Lib.hid hg
  clear hg
  go_enter Try.func4, Try.ntmps4
  go_wp2_with fail
  refine (HC.out _).mono ?_
  rintro e w1 ⟨rfl, b1⟩
  go_wp2_with fail
  refine (HR.out _).mono ?_
  rintro e w2 ⟨rfl, b2⟩
  have B2 := b1.trans (b2.mono b1.size)
  clear b1 b2
  go_wp2_with fail
  refine (awake_any _ (HG.out.beyond B2)).mono ?_
  rintro e w3 ⟨rfl, b3⟩
  have B3 := B2.trans (b3.mono B2.size)
  clear B2 b3
  go_wp2
  go_ret
  exact ⟨rfl, B3⟩
end Go.Proofs.Yteciaomjpafaiaa
