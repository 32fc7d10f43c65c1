/-
  The walk of FieldTexts.
-/
import Derived.Test.YtamagbdkcfmfmaaDoorParseW
namespace Go.Proofs.YtamagbdkcfmfmaaDoor
open Go.RowKit Go.Shelf Go.Lib

theorem parseGo_len (s : ByteArray) : ∀ (n a : Nat) (acc : List Fl), acc.length ≤ 100 → (parseGo s n a acc).1.length ≤ 100
  | 0, _, acc, h => h
  | n + 1, a, acc, h => by
    unfold parseGo
    split
    · split
      · simp
      · split
        · simp
        · split
          · exact parseGo_len s n _ _ (by simp; omega)
          · simp
    · exact h
set_option maxRecDepth 20000 in
set_option maxHeartbeats 1000000 in
theorem FieldTexts_walk (s : ByteArray) (w : World) (_hs : s.size ≤ maxLen) (hk : s.size ≤ 1048576) (hg : Glob w) :
    Calls Tryd.prog 7 #[.string s] w fun e w' => e = .returned (.bool true) ∧ Below w.heap.size w w' := by
  have hP := fun w hg => Parse_any s w (by omega) hg
  have hR := fun w => rParse_any s w (by omega)
  have hlen : (parseAll s).1.length ≤ 100 := parseGo_len s _ _ _ (by simp)
  generalize parseAll s = r at hP hR hlen
  obtain ⟨l, pl, ec⟩ := r
  have HP := Lib.hid hP
  have HR := Lib.hid hR
  have hlen' : l.length ≤ 100 := hlen
  clear hP hR hlen
  go_enter Tryd.func7, Tryd.ntmps7
  go_wp2_with fail
  refine (awake_any w hg).mono ?_
  rintro e w1 ⟨rfl, hb1⟩
  have hg1 := hg.beyond hb1
  go_wp2_with fail
  refine (HP.out w1 hg1).mono ?_
  rintro e w2 ⟨A, c, rfl, hown, hb2⟩
  have hr2 := own_row hown
  have hbw2 := hb1.trans (hb2.mono hb1.size)
  clear hown hb1 hb2 hg1
  go_wp2_with fail
  refine (HR.out w2).mono ?_
  rintro e w3 ⟨B, d, rfl, hown, hb3⟩
  have hs3 := own_row hown
  have hr3 := hr2.below hb3
  have hbw3 := hbw2.trans (hb3.mono hbw2.size)
  clear hown hr2 hb3 hbw2
  have hS := same_any A B c d l l w3 hr3 hs3 (by omega) (by omega)
  rw [decide_eq_true rfl] at hS
  have HS := Lib.hid hS
  clear hS
  go_wp2_with fail
  refine HS.out.mono ?_
  rintro e w4 ⟨rfl, hb4⟩
  go_wp2
  go_ret
  exact ⟨rfl, hbw3.trans (hb4.mono hbw3.size)⟩
end Go.Proofs.YtamagbdkcfmfmaaDoor
