/-
  Are two responses alike; the elements of a chain: their table and whether one is right.
-/
import Derived.Test.YtdipogmlpmkgcaaGreatDoorChL
import Derived.Laws.EntriesVeiled
namespace Go.Proofs.YtdipogmlpmkgcaaGreatDoor
open Go.RowKit Go.Shelf Go.Lib

set_option maxRecDepth 20000 in
set_option maxHeartbeats 2000000 in
theorem sameResp_any (n : Int) (A B : Option Addr) (c d : Nat) (l : List Fl) (b : ByteArray) (w : World) (hr : Row w A (flat l)) (hs : Row w B (flat l)) (hl : l.length ≤ 4398046511104) :
    Calls Tryz.prog 6 #[.agg #[.int .i64 n, .string ⟨#[]⟩, .slice A l.length c, .string b], .agg #[.int .i64 n, .string ⟨#[]⟩, .slice B l.length d, .string b]] w fun e w' => e = .returned (.bool true) ∧ Below w.heap.size w w' := by
  have HS := Lib.hid (fun (w1 : World) (hb : Below w.heap.size w w1) => sameFields_any A B c d l l w1 (hr.below hb) (hs.below hb) hl hl)
  rw [decide_eq_true (rfl : l = l)] at HS
  go_enter Tryz.func6, Tryz.ntmps6
  go_wp2_with fail
  refine (HS.out _ (((Below.refl _ w).alloc (Nat.le_refl _) _).alloc (by simp) _)).mono ?_
  rintro e w1 ⟨rfl, b1⟩
  have hbw : Below w.heap.size w w1 := (((Below.refl _ w).alloc (Nat.le_refl _) _).alloc (by simp) _).trans (b1.mono (by simp; omega))
  clear b1
  go_wp2
  go_ret
  exact ⟨rfl, hbw⟩

set_option maxRecDepth 20000 in
theorem IsValue_one (w : World) :
    Calls Tryz.prog 26 #[.string ⟨#[49]⟩] w fun e w' => e = .returned (.bool true) ∧ Below w.heap.size w w' := by
  have HF := Lib.hid (fun w => IsField_any ⟨#[49]⟩ w (by decide))
  have HT := Lib.hid (fun w => Trim_any ⟨#[49]⟩ w (by decide))
  rw [show isFld ⟨#[49]⟩ = true by decide +kernel] at HF
  rw [show trim ⟨#[49]⟩ = ⟨#[49]⟩ by decide +kernel] at HT
  go_enter Tryz.func26, Tryz.ntmps26
  go_wp2_with fail
  refine (HF.out _).mono ?_
  rintro e w1 ⟨rfl, rfl⟩
  go_wp2_with fail
  refine (HT.out _).mono ?_
  rintro e w1 ⟨rfl, b1⟩
  go_wp2
  go_ret
  exact ⟨rfl, b1⟩
set_option maxRecDepth 20000 in
theorem right_one (w : World) (hg : Glob w) :
    Calls Tryz.prog 24 #[.agg #[.int .i64 1, .string ⟨#[88]⟩, .string ⟨#[49]⟩, .slice none 0 0, .int .i64 0]] w fun e w' => e = .returned (.bool true) ∧ Below w.heap.size w w' := by
  have HT := Lib.hid (fun w hg => IsToken_any ⟨#[88]⟩ w (by decide) hg)
  rw [show isTok ⟨#[88]⟩ = true by decide +kernel] at HT
  go_enter Tryz.func24, Tryz.ntmps24
  go_wp2_with fail
  refine (HT.out _ (hg.beyond ((Below.refl _ w).alloc (Nat.le_refl _) _))).mono ?_
  rintro e w1 ⟨rfl, rfl⟩
  go_wp2_with fail
  refine (IsValue_one _).mono ?_
  rintro e w1 ⟨rfl, b1⟩
  have hbw : Below w.heap.size w w1 := ((Below.refl _ w).alloc (Nat.le_refl _) _).trans (b1.mono (by simp))
  clear b1
  go_wp2
  go_ret
  exact ⟨rfl, hbw⟩
set_option maxRecDepth 20000 in
theorem works_any (w : World) :
    Calls Tryz.prog 18 #[] w fun e w' => e = .returned (.slice (some ⟨w.heap.size, 0, none⟩) 10 10) ∧ (w'.cell? ⟨w.heap.size, 0, none⟩ = some (.int .i64 3) ∧ w'.cell? ⟨w.heap.size, 1, none⟩ = some (.func (.func 24) #[] #[]) ∧ w'.cell? ⟨w.heap.size, 2, none⟩ = some (.func (.func 27) #[] #[])) ∧ w.heap.size < w'.heap.size ∧ Below w.heap.size w w' := by
  go_enter Tryz.func18, Tryz.ntmps18
  go_wp2
  go_ret
  exact ⟨rfl, ⟨by simp, by simp, by simp⟩, by simp, (Below.refl _ w).alloc (Nat.le_refl _) _⟩
/-- The closure in Check: does the work use it, or is it left empty. -/
theorem uses_one (B : Nat) (w : World) (z : Bool) (hc : w.cell? ⟨B, 0, none⟩ = some (.int .i64 3)) :
    Calls Tryz.prog 23 #[.int .i64 1, .bool z, .pointer (some ⟨B, 0, none⟩)] w fun e w' => e = .returned (.bool true) ∧ w = w' := by
  go_enter Tryz.func23, Tryz.ntmps23
  go_wp2
  go_ret
  exact ⟨rfl, rfl⟩
theorem uses_two (B : Nat) (w : World) (z : Bool) (hc : w.cell? ⟨B, 0, none⟩ = some (.int .i64 3)) :
    Calls Tryz.prog 23 #[.int .i64 2, .bool z, .pointer (some ⟨B, 0, none⟩)] w fun e w' => e = .returned (.bool true) ∧ w = w' := by
  go_enter Tryz.func23, Tryz.ntmps23
  go_wp2
  go_ret
  exact ⟨rfl, rfl⟩
theorem uses_four (B : Nat) (w : World) (hc : w.cell? ⟨B, 0, none⟩ = some (.int .i64 3)) :
    Calls Tryz.prog 23 #[.int .i64 4, .bool true, .pointer (some ⟨B, 0, none⟩)] w fun e w' => e = .returned (.bool true) ∧ w = w' := by
  go_enter Tryz.func23, Tryz.ntmps23
  go_wp2
  go_ret
  exact ⟨rfl, rfl⟩
theorem uses_eight (B : Nat) (w : World) (hc : w.cell? ⟨B, 0, none⟩ = some (.int .i64 3)) :
    Calls Tryz.prog 23 #[.int .i64 8, .bool true, .pointer (some ⟨B, 0, none⟩)] w fun e w' => e = .returned (.bool true) ∧ w = w' := by
  go_enter Tryz.func23, Tryz.ntmps23
  go_wp2
  go_ret
  exact ⟨rfl, rfl⟩
def midX : Value := .agg #[.int .i64 1, .string ⟨#[88]⟩, .string ⟨#[49]⟩, .slice none 0 0, .int .i64 0]
set_option maxRecDepth 20000 in
set_option maxHeartbeats 2000000 in
theorem Check_one (w : World) (hg : Glob w) :
    Calls Tryz.prog 17 #[.agg #[.int .i64 1, .string ⟨#[88]⟩, .string ⟨#[49]⟩, .slice none 0 0, .int .i64 0]] w fun e w' => e = .returned (.int .i64 0) ∧ Below w.heap.size w w' := by
  have hmf : ∀ (fn : Fn) (first cap : Array Value) (w : World), (Instr.makeFunc fn first cap).run Tryz.prog w = .ok (.func fn first cap) w := fun _ _ _ _ => rfl
  go_enter Tryz.func17, Tryz.ntmps17
  go_wp2_with fail
  refine (works_any _).mono ?_
  rintro e w1 ⟨rfl, ⟨k0, k1, k2⟩, hs1, b1⟩
  have b1' : Below (w.heap.size + 1) (w.alloc (.cells #[.int .i64 1, .string ⟨#[88]⟩, .string ⟨#[49]⟩, .slice none 0 0, .int .i64 0] 41)) w1 := by simpa using b1
  clear b1
  obtain ⟨c0, f0⟩ := box6 b1' 0
  obtain ⟨c1, f1⟩ := box6 b1' 1
  obtain ⟨c2, f2⟩ := box6 b1' 2
  obtain ⟨c3, f3⟩ := box6 b1' 3
  obtain ⟨c4, f4⟩ := box6 b1' 4
  have hs1' : w.heap.size + 1 < w1.heap.size := by simpa using hs1
  have hs0' : w.heap.size < w1.heap.size := by omega
  have hbw := below_box b1'
  clear b1' hs1
  simp at k0 k1 k2
  go_wp2_with fail
  refine (uses_one _ _ _ (by simp)).mono ?_
  rintro e w2 ⟨rfl, rfl⟩
  go_wp2_with fail
  refine (uses_two _ _ _ (by simp)).mono ?_
  rintro e w2 ⟨rfl, rfl⟩
  go_wp2_with fail
  refine (uses_four _ _ (by simp)).mono ?_
  rintro e w2 ⟨rfl, rfl⟩
  go_wp2_with fail
  refine (uses_eight _ _ (by simp)).mono ?_
  rintro e w2 ⟨rfl, rfl⟩
  have hbw2 := hbw.alloc hbw.size (.cells #[.int .i64 3, .func (.func 24) #[] #[], .func (.func 27) #[] #[]] 53)
  go_wp2_with fail
  refine (right_one _ (hg.beyond hbw2)).mono ?_
  rintro e w2 ⟨rfl, b2⟩
  have hbw3 : Below w.heap.size w w2 := hbw2.trans (b2.mono (by simp; omega))
  clear b2
  go_wp2
  go_ret
  exact ⟨rfl, hbw3⟩
end Go.Proofs.YtdipogmlpmkgcaaGreatDoor
