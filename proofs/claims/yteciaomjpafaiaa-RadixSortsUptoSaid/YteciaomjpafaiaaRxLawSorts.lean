/-
  The walk of RadixSorts.
-/
import Derived.Test.YteciaomjpafaiaaRxFd
import Derived.Test.YteciaomjpafaiaaRxCo
namespace Go.Proofs.Yteciaomjpafaiaa
open Go.RowKit Go.Shelf Go.Lib

theorem three_facts (l m n : List Pc) : (ordP l m = -1 ∨ ordP l m = 0 ∨ ordP l m = 1) ∧ (ordP m n = -1 ∨ ordP m n = 0 ∨ ordP m n = 1) ∧ (ordP l n = -1 ∨ ordP l n = 0 ∨ ordP l n = 1) ∧ (ordP l m ≤ 0 → ordP m n ≤ 0 → ordP l n ≤ 0) ∧ (0 ≤ ordP l m → 0 ≤ ordP m n → 0 ≤ ordP l n) := by
  refine ⟨ordP_range _ _, ordP_range _ _, ordP_range _ _, fun h1 h2 => (ordP_three _ _ _ h1 h2).1, fun h1 h2 => ?_⟩
  have h3 := (ordP_three n m l (by rw [ordP_anti m n]; omega) (by rw [ordP_anti l m]; omega)).1
  rw [ordP_anti l n] at h3
  omega
/-- What three comparings answer. -/
def ThreeOk (x e y f z g : Int) : Prop := (e = 0 ∧ f = 0 ∧ g = 0 ∧ (x = -1 ∨ x = 0 ∨ x = 1) ∧ (y = -1 ∨ y = 0 ∨ y = 1) ∧ (z = -1 ∨ z = 0 ∨ z = 1) ∧ (x ≤ 0 → y ≤ 0 → z ≤ 0) ∧ (0 ≤ x → 0 ≤ y → 0 ≤ z)) ∨ (e = 130 ∧ f = 130 ∧ g = 130) ∨ (e = 130 ∧ f = 130 ∧ g = 0) ∨ (e = 130 ∧ f = 0 ∧ g = 130) ∨ (e = 0 ∧ f = 130 ∧ g = 130)
theorem three_ok (a b c : ByteArray) : ThreeOk (cmpR a b).1 (cmpR a b).2 (cmpR b c).1 (cmpR b c).2 (cmpR a c).1 (cmpR a c).2 := by
  unfold cmpR ThreeOk
  have h := three_facts (splitP a).1 (splitP b).1 (splitP c).1
  cases (splitP a).2.2 <;> cases (splitP b).2.2 <;> cases (splitP c).2.2 <;> simp
  exact h
set_option maxRecDepth 20000 in
set_option maxHeartbeats 8000000 in
theorem RadixSorts_walk (a b c : ByteArray) (w : World) (_ha : a.size ≤ maxLen) (_hb : b.size ≤ maxLen) (_hc : c.size ≤ maxLen) (hk : a.size + b.size + c.size ≤ 1048576) (hg : Glob w) :
    Calls Try.prog 7 #[.string a, .string b, .string c] w fun e w' => e = .returned (.bool true) ∧ Below w.heap.size w w' := by
  have H1 := Lib.hid (fun w => Cmp_any a b w (by omega) (by omega))
  have H2 := Lib.hid (fun w => Cmp_any b c w (by omega) (by omega))
  have H3 := Lib.hid (fun w => Cmp_any a c w (by omega) (by omega))
  have ht := three_ok a b c
  unfold chkVal at H1 H2 H3
  generalize cmpR a b = r1 at *
  generalize cmpR b c = r2 at *
  generalize cmpR a c = r3 at *
  obtain ⟨x, e⟩ := r1
  obtain ⟨y, f⟩ := r2
  obtain ⟨z, g⟩ := r3
  dsimp only at H1 H2 H3 ht
  have HG := Lib.hid hg
  have HT := Lib.hid ht
  have HAW := Lib.hid (fun (w' : World) (hb : Below w.heap.size w w') => awake_any w' (hg.beyond hb))
  clear hg ht HG
  go_enter Try.func7, Try.ntmps7
  go_wp2_with fail
  refine (H1.out _).mono ?_
  rintro e1 w1 ⟨rfl, b1⟩
  go_wp2_with fail
  refine (H2.out _).mono ?_
  rintro e2 w2 ⟨rfl, b2⟩
  have B2 := b1.trans (b2.mono b1.size)
  clear b1 b2
  go_wp2_with fail
  refine (H3.out _).mono ?_
  rintro e3 w3 ⟨rfl, b3⟩
  have B3 := B2.trans (b3.mono B2.size)
  clear B2 b3 H1 H2 H3
  have ht := HT.out
  clear HT
  rcases ht with ⟨rfl, rfl, rfl, hx, hy, hz, h1, h2⟩ | ⟨rfl, rfl, rfl⟩ | ⟨rfl, rfl, rfl⟩ | ⟨rfl, rfl, rfl⟩ | ⟨rfl, rfl, rfl⟩
  · rcases hx with rfl | rfl | rfl <;> rcases hy with rfl | rfl | rfl <;> rcases hz with rfl | rfl | rfl
    all_goals first | (exfalso; omega) | skip
    all_goals
      clear h1 h2
      go_wp2_with fail
      refine (HAW.out _ B3).mono ?_
      rintro e4 w4 ⟨rfl, b4⟩
      have B4 := B3.trans (b4.mono B3.size)
      clear B3 b4 HAW
      go_wp2
      go_ret
      exact ⟨rfl, B4⟩
  all_goals
    go_wp2_with fail
    refine (HAW.out _ B3).mono ?_
    rintro e4 w4 ⟨rfl, b4⟩
    have B4 := B3.trans (b4.mono B3.size)
    clear B3 b4 HAW
    go_wp2
    go_ret
    exact ⟨rfl, B4⟩
end Go.Proofs.Yteciaomjpafaiaa
