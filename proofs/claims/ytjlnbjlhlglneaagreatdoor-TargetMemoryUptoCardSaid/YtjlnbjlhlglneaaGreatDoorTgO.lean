/-
  What layer 5 shares: the package-level variables, small letters, the place of a byte.
-/
import Derived.Test.YtjlnbjlhlglneaaGreatDoorMem
import Derived.Test.YtjlnbjlhlglneaaGreatDoorShelf
import Derived.WalkLawsBesides
import Derived.WalkSpells
import Derived.Outline
import Derived.Lib.Hide
import Derived.Lib.ItoaNum
import Derived.Lib.LaidTab
namespace Go.Proofs.YtjlnbjlhlglneaaGreatDoor
open Go.RowKit Go.Shelf Go.Lib

theorem gPow : Tryz.prog.globalNamed "internal/strconv.uint64pow10" = some 3 := by kernel_rfl
theorem tab_below {P : Program} {w w' : World} {name : String} {k : IntKind} {zs : List Int} {g B : Nat} (h : Lib.TabIs P w name k zs) (hg : P.globalNamed name = some g) (hb : Below B w w') (hB : g < B) : Lib.TabIs P w' name k zs := by
  unfold Lib.TabIs World.var? at *
  rw [hg] at h ⊢
  simp only [Option.bind_some] at h ⊢
  rw [hb.block g hB]
  exact h
/-- The package-level variables that are read lie in their blocks. -/
structure Glob (w : World) : Prop where
  size : 4 ≤ w.heap.size
  maxl : ∃ m, w.cell? ⟨0, 0, none⟩ = some (.int .i64 m)
  pow : Lib.TabIs Tryz.prog w "internal/strconv.uint64pow10" .u64 Lib.pow10Tab
theorem Glob.below {B : Nat} {w w' : World} (h : Glob w) (hb : Below B w w') (hB : 4 ≤ B) : Glob w' :=
  ⟨Nat.le_trans h.size hb.size, by rw [hb.cell (p := ⟨0, 0, none⟩) (show 0 < B by omega)]; exact h.maxl, tab_below h.pow gPow hb (show 3 < B by omega)⟩
theorem Glob.beyond {w w' : World} (h : Glob w) (hb : Below w.heap.size w w') : Glob w' := h.below hb h.size
theorem Glob.alloc {w : World} (h : Glob w) (o : Obj) : Glob (w.alloc o) := h.beyond ((Below.refl w.heap.size w).alloc (Nat.le_refl _) o)
theorem below_drewN {B : Nat} {w w' : World} (h : Below B w w') (n : Nat) : Below B w (w'.drewN n) := ⟨h.os, h.tape, h.output, h.size, h.block⟩
theorem Glob.drewN {w : World} (h : Glob w) (n : Nat) : Glob (w.drewN n) := h.beyond (below_drewN (Below.refl _ _) n)

theorem ret_bool {a b : Bool} (h : a = b) : Ending.returned (.bool a) = .returned (.bool b) := by rw [h]
theorem ret_int {k : IntKind} {a b : Int} (h : a = b) : Ending.returned (.int k a) = .returned (.int k b) := by rw [h]
theorem ret_str {a b : ByteArray} (h : a = b) : Ending.returned (.string a) = .returned (.string b) := by rw [h]

theorem bytes_conv (w : World) (s : ByteArray) : (convert 9 82 (.string s)).run Tryz.prog w = .ok (.slice (some ⟨w.heap.size, 0, none⟩) s.size (grownCap w s.size 0 5)) (Lib.bytesWorld w 5 s) :=
  Lib.run_convert_string_bytes w _ _ _ s Tryz.underlying9 Tryz.underlying82 Tryz.underlying5

set_option maxRecDepth 20000 in
theorem Lower_any (s : ByteArray) (w : World) (hs : s.size ≤ maxLen) :
    Calls Tryz.prog 89 #[.string s] w fun e w' => e = .returned (.string (lower s)) ∧ Below w.heap.size w w' := by
  unfold maxLen at hs
  have hcv := bytes_conv w s
  have hbw := Lib.bytesWorld_size w 5 s
  have hba := BytesAt.of_conv w 5 s
  have hbl := below_conv w 5 s
  generalize Lib.bytesWorld w 5 s = w1 at hcv hbw hba hbl
  generalize grownCap w s.size 0 5 = cap at hcv
  have HW := Lib.hid hbw
  clear hbw
  go_enter Tryz.func89, Tryz.ntmps89
  go_wp2
  go_loopw [10] (fun i wr => ∃ k : Nat, k ≤ s.size ∧ i = .int .i64 k ∧ BytesAt wr w.heap.size (mapTo lowB s.data.toList k) ∧ Below w.heap.size w wr ∧ w.heap.size < wr.heap.size) (fun i _ => s.size - (RowKit.intOf i).toNat)
  case atStart => exact ⟨0, by omega, rfl, by rw [mapTo_zero]; exact hba, hbl, by have := HW.out; omega⟩
  case round =>
    obtain ⟨k, hk, rfl, hb, hbl', hlt'⟩ := hrel
    by_cases hlt : k < s.size
    · have hkl : k < s.data.toList.length := by rw [size_eq]; exact hlt
      have hc := hb.cell k (by rw [mapTo_length]; exact hkl)
      have hf := hb.free k (by rw [mapTo_length]; exact hkl)
      rw [mapTo_getD lowB _ _ hkl] at hc
      change wr.cell? _ = some (.int .u8 (bt s k)) at hc
      by_cases hu : 65 ≤ bt s k ∧ bt s k ≤ 90
      · obtain ⟨hu1, hu2⟩ := hu
        have h1 := bt_lt s k
        go_wp2
        go_roundw
        case rel => exact ⟨k + 1, by omega, by go_num, by rw [mapTo_succ lowB _ _ hkl]; exact hb.set (by rw [mapTo_length]; exact hkl) _ _ (by unfold bt; rw [lowB_in ⟨hu1, hu2⟩]; omega), hbl'.setCell (Nat.le_refl _) _, by simpa using hlt'⟩
        case measure => simp [RowKit.intOf]; omega
      · have hsame := mapTo_same lowB _ _ hkl (lowB_out hu)
        have HS := Lib.hid hsame
        clear hsame
        have hu' : bt s k < 65 ∨ 90 < bt s k := by omega
        clear hu
        rcases hu' with hu | hu
        all_goals
          go_wp2
          go_roundw
          case rel => exact ⟨k + 1, by omega, by go_num, by rw [HS.out]; exact hb, hbl', hlt'⟩
          case measure => simp [RowKit.intOf]; omega
    · obtain rfl : k = s.size := by omega
      have hcv := hb.conv Tryz.underlying82 Tryz.underlying5 Tryz.underlying9 cap
      rw [mapTo_length, size_eq, ← size_eq s, mapTo_all, size_eq] at hcv
      go_wp2
      go_ret
      exact ⟨rfl, hbl'⟩
theorem IndexByte_any (s : ByteArray) (c : Int) (w : World) (h0 : 0 ≤ c) (h1 : c < 256) :
    Calls Tryz.prog 83 #[.string s, .int .u8 c] w fun e w' => e = .returned (.int .i64 (findB s c)) ∧ w = w' :=
  (Tryz.strings_IndexByte s c w).mono fun _ _ ⟨he, hw⟩ => ⟨by rw [he, indexByte_eq s c h0 h1], hw.symm⟩
theorem Same_any (a b : ByteArray) (w : World) (ha : a.size ≤ maxLen) (hb : b.size ≤ maxLen) :
    Calls Tryz.prog 61 #[.string a, .string b] w fun e w' => e = .returned (.bool (alike a b)) ∧ Below w.heap.size w w' := by
  go_enter Tryz.func61, Tryz.ntmps61
  go_wp2_with fail
  refine (Lower_any a _ ha).mono ?_
  rintro e w1 ⟨rfl, hb1⟩
  go_wp2_with fail
  refine (Lower_any b _ hb).mono ?_
  rintro e w2 ⟨rfl, hb2⟩
  go_wp2
  go_ret
  exact ⟨ret_bool (by rw [alike, ← eq_str]), hb1.trans (hb2.mono hb1.size)⟩
end Go.Proofs.YtjlnbjlhlglneaaGreatDoor
