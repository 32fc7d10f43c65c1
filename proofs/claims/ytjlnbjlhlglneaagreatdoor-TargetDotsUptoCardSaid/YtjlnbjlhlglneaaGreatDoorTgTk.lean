/-
  A token: what the laws need of the reference's function; how long normal forms are.
-/
import Derived.Test.YtjlnbjlhlglneaaGreatDoorTgPm
import Derived.Test.YtjlnbjlhlglneaaGreatDoorTgRe
namespace Go.Proofs.YtjlnbjlhlglneaaGreatDoor
open Go.RowKit Go.Shelf Go.Lib

def SomeBool (P : Bool → Prop) (w : World) (e : Ending) (w' : World) : Prop := ∃ b, e = .returned (.bool b) ∧ P b ∧ w = w'
theorem some_bool {P : Bool → Prop} {w : World} {b : Bool} (h : P b) : SomeBool P w (.returned (.bool b)) w := ⟨b, rfl, h, rfl⟩
set_option maxRecDepth 20000 in
theorem rIsSign_some (c : Int) (w : World) : Calls Tryz.prog 48 #[.int .u8 c] w (SomeBool (fun _ => True) w) := by
  have HD := Lib.hid (fun w => rDigit_any c w)
  have HL := Lib.hid (fun w => rLetter_any c w)
  cases hd : isDgt c
  · rw [hd] at HD
    cases hl : isLet c
    · rw [hl] at HL
      clear hd hl
      obtain ⟨s, hs, hz⟩ : ∃ s : ByteArray, s = ⟨#[33, 35, 36, 37, 38, 39, 42, 43, 45, 46, 94, 95, 96, 124, 126]⟩ ∧ s.size = 15 := ⟨_, rfl, rfl⟩
      go_enter Tryz.func48, Tryz.ntmps48
      go_wp2_with fail
      refine (HD.out _).mono ?_
      rintro e w1 ⟨rfl, rfl⟩
      go_wp2_with fail
      refine (HL.out _).mono ?_
      rintro e w1 ⟨rfl, rfl⟩
      go_wp2_with fail
      rw [← hs]
      clear hs
      go_loop [4] (fun i => ∃ k : Nat, k ≤ s.size ∧ i = .int .i64 k) (fun i => s.size - (RowKit.intOf i).toNat)
      case atStart => exact ⟨0, by omega, rfl⟩
      case round =>
        obtain ⟨k, hk, rfl⟩ := hrel
        by_cases hlt : k < s.size
        · have hb := @bt_eq s k hlt
          have hki : (k : Int) < (s.size : Int) := by omega
          cases hc : (bt s k == c)
          · go_wp2
            go_round
            case rel => exact ⟨k + 1, by omega, by go_num⟩
            case measure => simp [RowKit.intOf]; omega
          · go_wp2
            go_ret
            exact some_bool trivial
        · obtain rfl : k = s.size := by omega
          go_wp2
          go_ret
          exact some_bool trivial
    · rw [hl] at HL
      clear hd hl
      go_enter Tryz.func48, Tryz.ntmps48
      go_wp2_with fail
      refine (HD.out _).mono ?_
      rintro e w1 ⟨rfl, rfl⟩
      go_wp2_with fail
      refine (HL.out _).mono ?_
      rintro e w1 ⟨rfl, rfl⟩
      go_wp2
      go_ret
      exact some_bool trivial
  · rw [hd] at HD
    clear hd
    go_enter Tryz.func48, Tryz.ntmps48
    go_wp2_with fail
    refine (HD.out _).mono ?_
    rintro e w1 ⟨rfl, rfl⟩
    go_wp2
    go_ret
    exact some_bool trivial
def TokFact (s : ByteArray) (b : Bool) : Prop := b = true → ¬ s.size = 0
set_option maxRecDepth 20000 in
theorem rIsToken_some (s : ByteArray) (w : World) (hs : s.size ≤ 1099511627776) : Calls Tryz.prog 24 #[.string s] w (SomeBool (TokFact s) w) := by
  go_enter Tryz.func24, Tryz.ntmps24
  go_wp2_with fail
  go_loop [3] (fun i => ∃ k : Nat, k ≤ s.size ∧ i = .int .i64 k) (fun i => s.size - (RowKit.intOf i).toNat)
  case atStart => exact ⟨0, by omega, rfl⟩
  case round =>
    obtain ⟨k, hk, rfl⟩ := hrel
    by_cases hlt : k < s.size
    · have hb := @bt_eq s k hlt
      have hki : (k : Int) < (s.size : Int) := by omega
      have HS := Lib.hid (fun w => rIsSign_some (bt s k) w)
      go_wp2_with fail
      refine (HS.out _).mono ?_
      rintro e w1 ⟨b, rfl, _, rfl⟩
      cases b
      · go_wp2
        go_ret
        exact some_bool (fun h => by cases h)
      · go_wp2
        go_round
        case rel => exact ⟨k + 1, by omega, by go_num⟩
        case measure => simp [RowKit.intOf]; omega
    · obtain rfl : k = s.size := by omega
      have hee : s.toList.isEmpty = decide (s.size = 0) := empty_eq s
      by_cases h0 : s.size = 0
      · have he : s.toList.isEmpty = true := by rw [hee]; exact decide_eq_true h0
        clear hee h0
        go_wp2
        go_ret
        exact some_bool (fun h => by cases h)
      · have he : s.toList.isEmpty = false := by rw [hee]; exact decide_eq_false h0
        have H0 := Lib.hid h0
        clear hee h0
        go_wp2
        go_ret
        exact some_bool (fun _ => H0.out)
theorem norm_size (s : ByteArray) : (normR s).1.size ≤ s.size + 2 := by
  cases hp : isPathB s
  · rw [normR_bad hp]
    exact Nat.zero_le _
  · rw [normR_segs hp]
    show (pathOf (normSegs s)).size ≤ _
    rw [← size_eq, pathOf_data (normSegs_ne s), slashAll_len]
    have h1 := keptR_sum (splitC (behind1 (plainT s)) 47)
    have h2 := splitC_sum 47 _ (behind1 (plainT s)) (Nat.le_refl _)
    have h3 : (behind1 (plainT s)).size ≤ (plainT s).size := by unfold behind1; rw [ByteArray.size_extract]; omega
    have h4 := plainT_size s
    unfold normSegs
    omega
theorem res_size (s r : ByteArray) : (resR s r).1.size ≤ s.size + r.size + 2 := by
  unfold resR
  split
  · split
    · have := norm_size s; omega
    · split
      · have := norm_size r; omega
      · have := norm_size (s.extract 0 (lastSlash s s.size) ++ r)
        rw [add_size, ByteArray.size_extract] at this
        omega
  · exact Nat.zero_le _
end Go.Proofs.YtjlnbjlhlglneaaGreatDoor
