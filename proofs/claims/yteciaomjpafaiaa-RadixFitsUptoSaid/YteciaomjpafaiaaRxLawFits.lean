/-
  The walk of RadixFits.
-/
import Derived.Test.YteciaomjpafaiaaRxFd
import Derived.Test.YteciaomjpafaiaaRxFr
namespace Go.Proofs.Yteciaomjpafaiaa
open Go.RowKit Go.Shelf Go.Lib

set_option maxRecDepth 20000 in
set_option maxHeartbeats 1000000 in
/-- Lists that are alike are found alike. -/
theorem params_same (A B : Option Addr) (c d : Nat) (l : List Pr) (w : World) (hr : Row w A (flat3 l)) (hs : Row w B (flat3 l)) (hl : l.length ≤ 4398046511104) :
    Calls Try.prog 12 #[.slice A l.length c, .slice B l.length d] w fun e w' => e = .returned (.bool true) ∧ ∃ q : Nat, w' = w.drewN q := by
  have hne : ((l.length : Int) != (l.length : Int)) = false := by simp
  go_enter Try.func12, Try.ntmps12
  go_wp2
  go_loopw [5] (fun i wr => ∃ (k q : Nat), k ≤ l.length ∧ i = .int .i64 k ∧ wr = w.drewN q) (fun i _ => l.length - (RowKit.intOf i).toNat)
  case atStart => exact ⟨0, 0, by omega, rfl, rfl⟩
  case round =>
    obtain ⟨k, q, hk, rfl, rfl⟩ := hrel
    by_cases hlt : k < l.length
    · obtain ⟨⟨x, y, z⟩, hxy⟩ := some_of_lt hlt
      obtain ⟨b, off, rfl, hb, h0, h1, h2⟩ := hr.trip hxy
      obtain ⟨b', off', rfl, hb', h0', h1', h2'⟩ := hs.trip hxy
      clear hxy
      have hki : (k : Int) < (l.length : Int) := by omega
      have hxx : (x.toList == x.toList) = true := by simp
      have hyy : (y.toList == y.toList) = true := by simp
      have hzz : (z == z) = true := by simp
      go_wp2_with fail
      go_quiet (fail)
      go_wp2
      go_roundw
      case rel => exact ⟨k + 1, _, by omega, by go_num, rfl⟩
      case measure => simp [RowKit.intOf]; omega
    · obtain rfl : k = l.length := by omega
      go_wp2
      go_ret
      exact ⟨rfl, _, rfl⟩
theorem refGo_len : ∀ (l : List Pc) (xs : List ByteArray) (out r : List Prm), refGo l xs out = some r → r.length ≤ out.length + l.length
  | [], [], out, r, h => by
    have := Option.some.inj h
    subst this
    exact Nat.le_add_right _ _
  | [], _ :: _, _, _, h => by cases h
  | _ :: _, [], _, _, h => by cases h
  | p :: l, x :: xs, out, r, h => by
    unfold refGo at h
    rw [List.length_cons]
    by_cases h0 : p.1 = 0
    · rw [if_pos h0] at h
      by_cases hx : x = p.2
      · rw [if_pos hx] at h
        have := refGo_len l xs out r h
        omega
      · rw [if_neg hx] at h; cases h
    · rw [if_neg h0] at h
      by_cases h1 : p.1 = 1
      · rw [if_pos h1] at h
        by_cases hx : x.size = 0
        · rw [if_pos hx] at h; cases h
        · rw [if_neg hx] at h
          have := refGo_len l xs _ r h
          rw [List.length_append, List.length_singleton] at this
          omega
      · rw [if_neg h1] at h
        have := Option.some.inj h
        subst this
        rw [List.length_append, List.length_singleton]
        omega
theorem refFits_len (s path : ByteArray) : (fitVal (refFits s path)).1.length ≤ s.size := by
  unfold refFits
  by_cases h : (splitP s).2.2 = true ∧ isPathB path = true
  · rw [if_pos h]
    cases hr : refGo ((segsP s).map pcOf) (segsP path) [] with
    | none => exact Nat.zero_le _
    | some r =>
      have h1 := refGo_len _ _ _ _ hr
      have h2 := segsP_len s
      rw [List.length_map] at h1
      show r.length ≤ _
      simp only [List.length_nil] at h1
      omega
  · rw [if_neg h]
    exact Nat.zero_le _
set_option maxRecDepth 20000 in
set_option maxHeartbeats 8000000 in
theorem RadixFits_walk (a b : ByteArray) (w : World) (_ha : a.size ≤ maxLen) (_hb : b.size ≤ maxLen) (hk : a.size + b.size ≤ 1048576) (hg : Glob w) :
    Calls Try.prog 3 #[.string a, .string b] w fun e w' => e = .returned (.bool true) ∧ Below w.heap.size w w' := by
  have H1 := Lib.hid (Fits_any a b w (by omega) (by omega) hg)
  have H2 := Lib.hid (fun w => rFits_any a b w (by omega) (by omega))
  have hlen := refFits_len a b
  unfold GivesFit at H1
  unfold GivesRf at H2
  rw [← ref_fits] at H1
  generalize fitVal (refFits a b) = r at *
  obtain ⟨l, g⟩ := r
  dsimp only at H1 H2 hlen
  have HAW := Lib.hid (fun (w' : World) (hb : Below w.heap.size w w') => awake_any w' (hg.beyond hb))
  clear hg
  cases g
  all_goals
    go_enter Try.func3, Try.ntmps3
    go_wp2_with fail
    refine H1.out.mono ?_
    rintro e1 w1 ⟨A, c, rfl, ho1, b1⟩
    go_wp2_with fail
    refine (H2.out _).mono ?_
    rintro e2 w2 ⟨B, d, rfl, hr2, b2⟩
    have B2 := b1.trans (b2.mono b1.size)
    have hr1 := own_row (own_below ho1 b2)
    clear b1 b2 ho1 H1 H2
    go_wp2_with fail
    refine (HAW.out _ B2).mono ?_
    rintro e3 w3 ⟨rfl, b3⟩
    have B3 := B2.trans (b3.mono B2.size)
    have HP := Lib.hid (params_same A B c d l w3 (hr1.below b3) (hr2.below b3) (by omega))
    clear B2 b3 HAW hr1 hr2
    go_wp2_with fail
    refine HP.out.mono ?_
    rintro e4 w4 ⟨rfl, q, rfl⟩
    have B4 := below_drewN B3 q
    go_wp2
    go_ret
    exact ⟨rfl, B4⟩
end Go.Proofs.Yteciaomjpafaiaa
