/-
  radix.Compare: which of two patterns comes first.
-/
import Derived.Test.YteciaomjpafaiaaRxJ
namespace Go.Proofs.Yteciaomjpafaiaa
open Go.RowKit Go.Shelf Go.Lib

/-- What Compare answers: a number, and an error. -/
def cmpR (a b : ByteArray) : Int × Int := if (splitP a).2.2 = true ∧ (splitP b).2.2 = true then (ordP (splitP a).1 (splitP b).1, 0) else (0, 130)
theorem split_kinds {s : ByteArray} (h : (splitP s).2.2 = true) : (splitP s).1.length ≤ 4194304 ∧ ∀ p ∈ (splitP s).1, 0 ≤ p.1 ∧ p.1 ≤ 2 := by
  obtain ⟨h1, _, h3, _, h5, _⟩ := split_wf h
  have := totP_len (splitP s).1
  exact ⟨by omega, fun p hp => by have := (h1 p hp).1; omega⟩
set_option maxRecDepth 20000 in
set_option maxHeartbeats 4000000 in
theorem Cmp_any (a b : ByteArray) (w : World) (ha : a.size ≤ 4194304) (hb : b.size ≤ 4194304) :
    Calls Try.prog 15 #[.string a, .string b] w fun e w' => e = .returned (chkVal (cmpR a b)) ∧ Below w.heap.size w w' := by
  have HA := Lib.hid (fun W => split_any a W ha)
  have HB := Lib.hid (fun W => split_any b W hb)
  have hka := @split_kinds a
  have hkb := @split_kinds b
  unfold cmpR
  generalize splitP a = r at *
  generalize splitP b = t at *
  obtain ⟨l, p, g⟩ := r
  obtain ⟨m, q, h⟩ := t
  dsimp only at hka hkb
  cases g
  · have HC := Lib.hid (show (if False ∧ h = true then (ordP l m, (0 : Int)) else (0, 130)) = (0, 130) from if_neg (fun x => x.1))
    clear hka hkb
    cases h
    all_goals
      clear HC
      go_enter Try.func15, Try.ntmps15
      go_wp2_with fail
      refine (HA.out _).mono ?_
      rintro e w1 ⟨A, c, rfl, ho, hb1⟩
      dsimp only at ho
      clear ho
      go_wp2_with fail
      refine (HB.out _).mono ?_
      rintro e w2 ⟨B, d, rfl, ho2, hb2⟩
      dsimp only at ho2
      have hb3 := hb1.trans (hb2.mono hb1.size)
      clear ho2 hb1 hb2
      go_wp2
      go_ret2
      exact ⟨rfl, hb3⟩
  · cases h
    · clear hka hkb
      go_enter Try.func15, Try.ntmps15
      go_wp2_with fail
      refine (HA.out _).mono ?_
      rintro e w1 ⟨A, c, rfl, ho, hb1⟩
      dsimp only at ho
      clear ho
      go_wp2_with fail
      refine (HB.out _).mono ?_
      rintro e w2 ⟨B, d, rfl, ho2, hb2⟩
      dsimp only at ho2
      have hb3 := hb1.trans (hb2.mono hb1.size)
      clear ho2 hb1 hb2
      go_wp2
      go_ret2
      exact ⟨rfl, hb3⟩
    · obtain ⟨hl1, hl2⟩ := hka rfl
      obtain ⟨hm1, hm2⟩ := hkb rfl
      have HL := Lib.hid hl2
      have HM := Lib.hid hm2
      clear hka hkb hl2 hm2
      go_enter Try.func15, Try.ntmps15
      go_wp2_with fail
      refine (HA.out _).mono ?_
      rintro e w1 ⟨A, c, rfl, ho, hb1⟩
      dsimp only at ho ⊢
      go_wp2_with fail
      refine (HB.out _).mono ?_
      rintro e w2 ⟨B, d, rfl, ho2, hb2⟩
      dsimp only at ho2 ⊢
      have hb3 := hb1.trans (hb2.mono hb1.size)
      have HO := Lib.hid (order_any A c l B d m w2 (own_row (own_below ho hb2)) (own_row ho2) hl1 hm1 HL.out HM.out)
      clear ho ho2 hb1 hb2
      go_wp2_with fail
      refine HO.out.mono ?_
      rintro e w3 ⟨rfl, hd⟩
      have hb4 := hb3.trans (hd.below.mono hb3.size)
      clear hd hb3
      go_wp2
      go_ret2
      exact ⟨rfl, hb4⟩
end Go.Proofs.Yteciaomjpafaiaa
