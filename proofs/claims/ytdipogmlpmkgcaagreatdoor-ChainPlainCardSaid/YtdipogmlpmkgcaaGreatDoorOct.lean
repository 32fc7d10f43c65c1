/-
  Walks through layer 1's small functions and their twins in the references.
-/
import Derived.Test.YtdipogmlpmkgcaaGreatDoorMem
import Derived.Test.YtdipogmlpmkgcaaGreatDoorShelf
import Derived.WalkLawsBesides
import Derived.WalkSpells
import Derived.Outline
import Derived.Lib.Hide
namespace Go.Proofs.YtdipogmlpmkgcaaGreatDoor
open Go.RowKit Go.Shelf Go.Lib

/-- The package-level variables lie in their blocks. -/
structure Glob (w : World) : Prop where
  size : 3 ≤ w.heap.size
  cell : ∀ k : Nat, k < 4 → w.cell? ⟨0, k, none⟩ = some (.int .u32 (signTab.getD k 0))
  maxl : ∃ m, w.cell? ⟨2, 0, none⟩ = some (.int .i64 m)
theorem Glob.below {B : Nat} {w w' : World} (h : Glob w) (hb : Below B w w') (hB : 3 ≤ B) : Glob w' :=
  ⟨Nat.le_trans h.size hb.size, fun k hk => by rw [hb.cell (p := ⟨0, k, none⟩) (show 0 < B by omega)]; exact h.cell k hk, by rw [hb.cell (p := ⟨2, 0, none⟩) (show 2 < B by omega)]; exact h.maxl⟩
theorem Glob.beyond {w w' : World} (h : Glob w) (hb : Below w.heap.size w w') : Glob w' := h.below hb h.size

theorem ret_bool {a b : Bool} (h : a = b) : Ending.returned (.bool a) = .returned (.bool b) := by rw [h]
theorem ret_int {k : IntKind} {a b : Int} (h : a = b) : Ending.returned (.int k a) = .returned (.int k b) := by rw [h]
theorem ret_str {a b : ByteArray} (h : a = b) : Ending.returned (.string a) = .returned (.string b) := by rw [h]

theorem isSign_big (c : Int) (w : World) (h0 : 128 ≤ c) :
    Calls Tryz.prog 49 #[.int .u8 c] w fun e w' => e = .returned (.bool false) ∧ w = w' := by
  have hd : decide (c < 128) = false := by simpa using h0
  go_enter Tryz.func49, Tryz.ntmps49
  go_wp2
  go_ret
  exact ⟨rfl, rfl⟩
theorem isSign_small (c v : Int) (w : World) (h0 : 0 ≤ c) (h1 : c < 128) (hv : w.cell? ⟨0, (c / 32).toNat, none⟩ = some (.int .u32 v)) :
    Calls Tryz.prog 49 #[.int .u8 c] w fun e w' => e = .returned (.bool (bits BinOp.and IntKind.u32 (v / 2 ^ (c % 32).toNat) 1 == 1)) ∧ w = w' := by
  go_enter Tryz.func49, Tryz.ntmps49
  go_wp2
  go_ret
  exact ⟨rfl, rfl⟩
theorem isSign_any (c : Int) (w : World) (h0 : 0 ≤ c) (hg : Glob w) :
    Calls Tryz.prog 49 #[.int .u8 c] w fun e w' => e = .returned (.bool (sign c)) ∧ w = w' := by
  by_cases h : c < 128
  · rw [← sign_tab c h0 h]
    exact isSign_small c _ w h0 h (hg.cell _ (by omega))
  · rw [sign_big c (by omega)]
    exact isSign_big c w (by omega)

theorem IsToken_any (s : ByteArray) (w : World) (hs : s.size ≤ maxLen) (hg : Glob w) :
    Calls Tryz.prog 25 #[.string s] w fun e w' => e = .returned (.bool (isTok s)) ∧ w = w' := by
  unfold maxLen at hs
  go_enter Tryz.func25, Tryz.ntmps25
  go_wp2
  go_loop [6] (fun i => ∃ k : Nat, k ≤ s.size ∧ i = .int .i64 k ∧ AllTo sign s k) (fun i => s.size - (RowKit.intOf i).toNat)
  case atStart => exact ⟨0, by omega, rfl, AllTo.zero _ _⟩
  case round =>
    obtain ⟨k, hk, rfl, hall⟩ := hrel
    by_cases hlt : k < s.size
    · have hb := @bt_eq s k hlt
      go_wp2_with (go_at_call 49; refine (isSign_any _ _ (by omega) hg).mono ?_; rintro e w' ⟨rfl, rfl⟩)
      · have h : (!sign (bt s k)) = true := by assumption
        go_ret
        exact ⟨ret_bool (by simp [isTok, allB_false hlt (by simpa using h)]), rfl⟩
      · have h : (!sign (bt s k)) = false := by assumption
        go_round
        case rel => exact ⟨k + 1, by omega, by go_num, hall.succ (by simpa using h)⟩
        case measure => simp [RowKit.intOf]; omega
    · obtain rfl : k = s.size := by omega
      go_wp2
      go_ret
      exact ⟨ret_bool (by rw [isTok, allB_true hall, empty_eq]; simp), rfl⟩

theorem bytes_conv (w : World) (s : ByteArray) : (convert 9 56 (.string s)).run Tryz.prog w = .ok (.slice (some ⟨w.heap.size, 0, none⟩) s.size (grownCap w s.size 0 5)) (Lib.bytesWorld w 5 s) :=
  Lib.run_convert_string_bytes w _ _ _ s Tryz.underlying9 Tryz.underlying56 Tryz.underlying5

set_option maxRecDepth 20000 in
theorem Lower_any (s : ByteArray) (w : World) (hs : s.size ≤ maxLen) :
    Calls Tryz.prog 97 #[.string s] w fun e w' => e = .returned (.string (lower s)) ∧ Below w.heap.size w w' := by
  unfold maxLen at hs
  have hcv := bytes_conv w s
  have hbw := Lib.bytesWorld_size w 5 s
  have hba := BytesAt.of_conv w 5 s
  have hbl := below_conv w 5 s
  generalize Lib.bytesWorld w 5 s = w1 at hcv hbw hba hbl
  generalize grownCap w s.size 0 5 = cap at hcv
  have HW := Lib.hid hbw
  clear hbw
  go_enter Tryz.func97, Tryz.ntmps97
  go_wp2
  go_loopw [10] (fun i wr => ∃ k : Nat, k ≤ s.size ∧ i = .int .i64 k ∧ BytesAt wr w.heap.size (mapTo lowB s.data.toList k) ∧ Below w.heap.size w wr ∧ w.heap.size < wr.heap.size) (fun i _ => s.size - (RowKit.intOf i).toNat)
  case atStart => exact ⟨0, by omega, rfl, by rw [mapTo_zero]; exact hba, hbl, by have := HW.out; omega⟩
  case round =>
    obtain ⟨k, hk, rfl, hb, hbl', hlt'⟩ := hrel
    by_cases hlt : k < s.size
    · have hkl : k < s.data.toList.length := by rw [size_eq]; exact hlt
      have hc := hb.cell k (by rw [mapTo_length]; exact hkl)
      have hf := hb.free k (by rw [mapTo_length]; exact hkl)
      rw [mapTo_getD lowB _ _ hkl] at hc
      change wr.cell? _ = some (.int .u8 (bt s k)) at hc
      by_cases hu : 65 ≤ bt s k ∧ bt s k ≤ 90
      · obtain ⟨hu1, hu2⟩ := hu
        have h1 := bt_lt s k
        go_wp2
        go_roundw
        case rel => exact ⟨k + 1, by omega, by go_num, by rw [mapTo_succ lowB _ _ hkl]; exact hb.set (by rw [mapTo_length]; exact hkl) _ _ (by unfold bt; rw [lowB_in ⟨hu1, hu2⟩]; omega), hbl'.setCell (Nat.le_refl _) _, by simpa using hlt'⟩
        case measure => simp [RowKit.intOf]; omega
      · have hsame := mapTo_same lowB _ _ hkl (lowB_out hu)
        have HS := Lib.hid hsame
        clear hsame
        have hu' : bt s k < 65 ∨ 90 < bt s k := by omega
        clear hu
        rcases hu' with hu | hu
        all_goals
          go_wp2
          go_roundw
          case rel => exact ⟨k + 1, by omega, by go_num, by rw [HS.out]; exact hb, hbl', hlt'⟩
          case measure => simp [RowKit.intOf]; omega
    · obtain rfl : k = s.size := by omega
      have hcv := hb.conv Tryz.underlying56 Tryz.underlying5 Tryz.underlying9 cap
      rw [mapTo_length, size_eq, ← size_eq s, mapTo_all, size_eq] at hcv
      go_wp2
      go_ret
      exact ⟨rfl, hbl'⟩

theorem isFieldByte_any (c : Int) (w : World) :
    Calls Tryz.prog 75 #[.int .u8 c] w fun e w' => e = .returned (.bool (inside c)) ∧ w = w' := by
  have hs : c = 9 ∨ (c < 32 ∧ (c == 9) = false) ∨ c = 127 ∨ (32 ≤ c ∧ (c == 9) = false ∧ (c != 127) = true) := by simp only [beq_eq_false_iff_ne, bne_iff_ne, ne_eq]; omega
  rcases hs with rfl | ⟨h1, h2⟩ | rfl | ⟨h1, h2, h3⟩
  all_goals
    go_enter Tryz.func75, Tryz.ntmps75
    go_wp2
    go_ret
    first | exact ⟨rfl, rfl⟩ | exact ⟨ret_bool (inside_low h1 h2).symm, rfl⟩ | exact ⟨ret_bool (inside_high h1 h3).symm, rfl⟩

set_option maxRecDepth 20000 in
theorem IsField_any (s : ByteArray) (w : World) (hs : s.size ≤ maxLen) :
    Calls Tryz.prog 50 #[.string s] w fun e w' => e = .returned (.bool (isFld s)) ∧ w = w' := by
  unfold maxLen at hs
  go_enter Tryz.func50, Tryz.ntmps50
  go_wp2
  go_loop [6] (fun i => ∃ k : Nat, k ≤ s.size ∧ i = .int .i64 k ∧ AllTo inside s k) (fun i => s.size - (RowKit.intOf i).toNat)
  case atStart => exact ⟨0, by omega, rfl, AllTo.zero _ _⟩
  case round =>
    obtain ⟨k, hk, rfl, hall⟩ := hrel
    by_cases hlt : k < s.size
    · have hb := @bt_eq s k hlt
      go_wp2_with (go_at_call 75; refine (isFieldByte_any _ _).mono ?_; rintro e w' ⟨rfl, rfl⟩)
      · have h : (!inside (bt s k)) = true := by assumption
        go_ret
        exact ⟨ret_bool (by rw [isFld, allB_false hlt (by simpa using h)]), rfl⟩
      · have h : (!inside (bt s k)) = false := by assumption
        go_round
        case rel => exact ⟨k + 1, by omega, by go_num, hall.succ (by simpa using h)⟩
        case measure => simp [RowKit.intOf]; omega
    · obtain rfl : k = s.size := by omega
      go_wp2
      go_ret
      exact ⟨ret_bool (by rw [isFld, allB_true hall]), rfl⟩

theorem Trim_blanks (s : ByteArray) (w : World) (hs : s.size ≤ 9223372036854775807) :
    Calls Tryz.prog 76 #[.string s, .string ⟨#[32, 9]⟩] w fun e w' => e = .returned (.string (trim s)) ∧ Below w.heap.size w w' := Any.strings_Trim_laid Tryz.lays160 (by kernel_rfl) s ⟨#[32, 9]⟩ w hs (by decide) (ascii_of_all (by decide))
theorem TrimLeft_blanks (s : ByteArray) (w : World) :
    Calls Tryz.prog 66 #[.string s, .string ⟨#[32, 9]⟩] w fun e w' => e = .returned (.string (trimL s)) ∧ Below w.heap.size w w' := Any.strings_TrimLeft_laid Tryz.lays161 (by kernel_rfl) s ⟨#[32, 9]⟩ w (by decide) (ascii_of_all (by decide))
theorem Trim_any (s : ByteArray) (w : World) (hs : s.size ≤ maxLen) :
    Calls Tryz.prog 51 #[.string s] w fun e w' => e = .returned (.string (trim s)) ∧ Below w.heap.size w w' := by
  unfold maxLen at hs
  go_enter Tryz.func51, Tryz.ntmps51
  go_wp2_with (go_at_call 76; refine (Trim_blanks _ _ (by omega)).mono ?_; rintro e w' ⟨rfl, hb⟩)
  go_ret
  exact ⟨rfl, hb⟩
theorem IndexByte_any (s : ByteArray) (c : Int) (w : World) (h0 : 0 ≤ c) (h1 : c < 256) :
    Calls Tryz.prog 60 #[.string s, .int .u8 c] w fun e w' => e = .returned (.int .i64 (findB s c)) ∧ w = w' :=
  (Tryz.strings_IndexByte s c w).mono fun _ _ ⟨he, hw⟩ => ⟨by rw [he, indexByte_eq s c h0 h1], hw.symm⟩
theorem Same_any (a b : ByteArray) (w : World) (ha : a.size ≤ maxLen) (hb : b.size ≤ maxLen) :
    Calls Tryz.prog 64 #[.string a, .string b] w fun e w' => e = .returned (.bool (alike a b)) ∧ Below w.heap.size w w' := by
  go_enter Tryz.func64, Tryz.ntmps64
  go_wp2_with fail
  refine (Lower_any a _ ha).mono ?_
  rintro e w1 ⟨rfl, hb1⟩
  go_wp2_with fail
  refine (Lower_any b _ hb).mono ?_
  rintro e w2 ⟨rfl, hb2⟩
  go_wp2
  go_ret
  exact ⟨ret_bool (by rw [alike, ← eq_str]), hb1.trans (hb2.mono hb1.size)⟩
end Go.Proofs.YtdipogmlpmkgcaaGreatDoor
