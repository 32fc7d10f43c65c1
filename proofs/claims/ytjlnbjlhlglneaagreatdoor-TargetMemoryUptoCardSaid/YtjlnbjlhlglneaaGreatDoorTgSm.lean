/-
  Lists of texts held against each other: the walk.
-/
import Derived.Test.YtjlnbjlhlglneaaGreatDoorTgF3
namespace Go.Proofs.YtjlnbjlhlglneaaGreatDoor
open Go.RowKit Go.Shelf Go.Lib

set_option maxRecDepth 20000 in
set_option maxHeartbeats 1000000 in
/-- Lists of texts that are alike are found alike. -/
theorem same_same (A B : Option Addr) (c d : Nat) (l : List ByteArray) (w : World) (hr : Row w A (l.map .string)) (hs : Row w B (l.map .string)) (hl : l.length ≤ 4398046511104) :
    Calls Tryz.prog 19 #[.slice A l.length c, .slice B l.length d] w fun e w' => e = .returned (.bool true) ∧ ∃ q : Nat, w' = w.drewN q := by
  have hne : ((l.length : Int) != (l.length : Int)) = false := by simp
  go_enter Tryz.func19, Tryz.ntmps19
  go_wp2
  go_loopw [5] (fun i wr => ∃ (k q : Nat), k ≤ l.length ∧ i = .int .i64 k ∧ wr = w.drewN q) (fun i _ => l.length - (RowKit.intOf i).toNat)
  case atStart => exact ⟨0, 0, by omega, rfl, rfl⟩
  case round =>
    obtain ⟨k, q, hk, rfl, rfl⟩ := hrel
    by_cases hlt : k < l.length
    · obtain ⟨x, hxy⟩ := some_of_lt hlt
      obtain ⟨b, off, rfl, hb, h0⟩ := hr.str hxy
      obtain ⟨b', off', rfl, hb', h0'⟩ := hs.str hxy
      clear hxy
      have hki : (k : Int) < (l.length : Int) := by omega
      have hxx : (x.toList == x.toList) = true := by simp
      go_wp2_with fail
      go_quiet (fail)
      go_wp2
      go_roundw
      case rel => exact ⟨k + 1, _, by omega, by go_num, rfl⟩
      case measure => simp [RowKit.intOf]; omega
    · obtain rfl : k = l.length := by omega
      go_wp2
      go_ret
      exact ⟨rfl, _, rfl⟩
end Go.Proofs.YtjlnbjlhlglneaaGreatDoor
