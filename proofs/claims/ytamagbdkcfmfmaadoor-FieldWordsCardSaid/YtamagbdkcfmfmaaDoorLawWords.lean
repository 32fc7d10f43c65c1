/-
  The walk of FieldWords: IsName, IsValue, Canon are the reference's, at every text.
-/
import Derived.Test.YtamagbdkcfmfmaaDoorAll
import Derived.Test.YtamagbdkcfmfmaaDoorCanonW
namespace Go.Proofs.YtamagbdkcfmfmaaDoor
open Go.RowKit Go.Shelf Go.Lib

set_option maxRecDepth 20000 in
set_option maxHeartbeats 1000000 in
theorem FieldWords_walk (s : ByteArray) (w : World) (hs : s.size ≤ maxLen) (hg : Glob w) :
    Calls Tryd.prog 4 #[.string s] w fun e w' => e = .returned (.bool true) ∧ Below w.heap.size w w' := by
  have h1 := fun w hg => IsName_any s w hs hg
  have h2 := fun w => rIsName_any s w hs
  have h3 := fun w => IsValue_any s w hs
  have h4 := fun w => rIsValue_any s w hs
  have h5 := fun w => Canon_any s w hs
  have h6 := fun w => rCanon_any s w hs
  generalize isName s = b1 at h1 h2
  generalize isValue s = b2 at h3 h4
  generalize canon s = t at h5 h6
  have H1 := Lib.hid h1
  have H2 := Lib.hid h2
  have H3 := Lib.hid h3
  have H4 := Lib.hid h4
  have H5 := Lib.hid h5
  have H6 := Lib.hid h6
  clear h1 h2 h3 h4 h5 h6
  go_enter Tryd.func4, Tryd.ntmps4
  go_wp2_with fail
  refine (awake_any w hg).mono ?_
  rintro e w1 ⟨rfl, hb1⟩
  have hg1 := hg.beyond hb1
  go_wp2_with fail
  refine (H1.out w1 hg1).mono ?_
  rintro e w1' ⟨rfl, rfl⟩
  go_wp2_with fail
  refine (H2.out w1).mono ?_
  rintro e w1' ⟨rfl, rfl⟩
  go_wp2_with fail
  refine (H3.out w1).mono ?_
  rintro e w2 ⟨rfl, hb2⟩
  go_wp2_with fail
  refine (H4.out w2).mono ?_
  rintro e w2' ⟨rfl, rfl⟩
  go_wp2_with fail
  refine (H5.out w2).mono ?_
  rintro e w3 ⟨rfl, hb3⟩
  go_wp2_with fail
  refine (H6.out w3).mono ?_
  rintro e w4 ⟨rfl, hb4⟩
  go_wp2
  go_ret
  exact ⟨rfl, hb1.trans ((hb2.trans ((hb3.trans (hb4.mono hb3.size)).mono hb2.size)).mono hb1.size)⟩
end Go.Proofs.YtamagbdkcfmfmaaDoor
