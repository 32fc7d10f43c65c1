/-
  The walk of RadixCompares.
-/
import Derived.Test.YteciaomjpafaiaaRxCr
namespace Go.Proofs.Yteciaomjpafaiaa
open Go.RowKit Go.Shelf Go.Lib

theorem cmpR_turn (a b : ByteArray) : (cmpR b a).1 = - (cmpR a b).1 ∧ (cmpR b a).2 = (cmpR a b).2 ∧ ((cmpR a b).1 = -1 ∨ (cmpR a b).1 = 0 ∨ (cmpR a b).1 = 1) := by
  unfold cmpR
  have h1 := ordP_anti (splitP a).1 (splitP b).1
  have h2 := ordP_range (splitP a).1 (splitP b).1
  cases (splitP a).2.2 <;> cases (splitP b).2.2 <;> simp
  exact ⟨h1, h2⟩
set_option maxRecDepth 20000 in
set_option maxHeartbeats 8000000 in
theorem RadixCompares_walk (a b : ByteArray) (w : World) (_ha : a.size ≤ maxLen) (_hb : b.size ≤ maxLen) (hk : a.size + b.size ≤ 1048576) (hg : Glob w) :
    Calls Try.prog 6 #[.string a, .string b] w fun e w' => e = .returned (.bool true) ∧ Below w.heap.size w w' := by
  have H1 := Lib.hid (fun w => Cmp_any a b w (by omega) (by omega))
  have H2 := Lib.hid (fun w => rCompare_any a b w (by omega) (by omega))
  have H3 := Lib.hid (fun w => Cmp_any b a w (by omega) (by omega))
  obtain ⟨ht1, ht2, ht3⟩ := cmpR_turn a b
  unfold chkVal at H1 H2 H3
  rw [ht1, ht2] at H3
  generalize cmpR a b = r1 at *
  obtain ⟨x, e⟩ := r1
  dsimp only at H1 H2 H3 ht3
  have HAW := Lib.hid (fun (w' : World) (hb : Below w.heap.size w w') => awake_any w' (hg.beyond hb))
  clear hg ht1 ht2
  rcases ht3 with rfl | rfl | rfl
  all_goals
    go_enter Try.func6, Try.ntmps6
    go_wp2_with fail
    refine (H1.out _).mono ?_
    rintro e1 w1 ⟨rfl, b1⟩
    go_wp2_with fail
    refine (H2.out _).mono ?_
    rintro e2 w2 ⟨rfl, b2⟩
    have B2 := b1.trans (b2.mono b1.size)
    clear b1 b2
    go_wp2_with fail
    refine (H3.out _).mono ?_
    rintro e3 w3 ⟨rfl, b3⟩
    have B3 := B2.trans (b3.mono B2.size)
    clear B2 b3 H1 H2 H3
    go_wp2_with fail
    refine (HAW.out _ B3).mono ?_
    rintro e4 w4 ⟨rfl, b4⟩
    have B4 := B3.trans (b4.mono B3.size)
    clear B3 b4 HAW
    go_wp2
    go_ret
    exact ⟨rfl, B4⟩
end Go.Proofs.Yteciaomjpafaiaa
