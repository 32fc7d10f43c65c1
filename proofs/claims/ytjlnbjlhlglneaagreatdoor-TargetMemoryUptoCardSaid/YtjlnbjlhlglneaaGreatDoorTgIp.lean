/-
  Is a text a path: the walks, of the program and of the reference; a prefix cut off.
-/
import Derived.Test.YtjlnbjlhlglneaaGreatDoorTgLib
import Derived.Test.YtjlnbjlhlglneaaGreatDoorTgRs
import Derived.Test.YtjlnbjlhlglneaaGreatDoorTgN
namespace Go.Proofs.YtjlnbjlhlglneaaGreatDoor
open Go.RowKit Go.Shelf Go.Lib

theorem isPath_heads (s : ByteArray) : isPathB s = (heads s 47 && decide (pathStop s = s.size)) := by unfold isPathB heads; rw [Bool.and_assoc]
set_option maxRecDepth 20000 in
theorem isPath_any (s : ByteArray) (w : World) (hs : s.size ≤ 1099511627776) :
    Calls Tryz.prog 44 #[.string s] w fun e w' => e = .returned (.bool (isPathB s)) ∧ ∃ q : Nat, w' = w.drewN q := by
  have HH := Lib.hid (fun w => Prefix_any s 47 w)
  rw [show ((47 : UInt8).toNat : Int) = 47 from rfl] at HH
  have HS := Lib.hid (fun w => signs_path s w hs)
  rw [isPath_heads]
  cases hh : heads s 47
  · rw [hh] at HH
    rw [Bool.false_and]
    clear hh
    go_enter Tryz.func44, Tryz.ntmps44
    go_wp2_with fail
    refine (HH.out _).mono ?_
    rintro e w1 ⟨rfl, rfl⟩
    go_wp2
    go_ret
    exact ⟨rfl, 0, rfl⟩
  · rw [hh] at HH
    rw [Bool.true_and]
    clear hh
    generalize pathStop s = n at *
    by_cases hn : n = s.size
    · have h1 : ((n : Int) == (s.size : Int)) = true := beq_iff_eq.2 (by omega)
      have h2 : (n == s.size) = true := beq_iff_eq.2 hn
      rw [decide_eq_true hn]
      clear hn
      go_enter Tryz.func44, Tryz.ntmps44
      go_wp2_with fail
      refine (HH.out _).mono ?_
      rintro e w1 ⟨rfl, rfl⟩
      go_wp2_with fail
      refine (HS.out _).mono ?_
      rintro e w1 ⟨rfl, q, rfl⟩
      go_wp2
      go_ret
      exact ⟨rfl, q, rfl⟩
    · have h1 : ((n : Int) == (s.size : Int)) = false := beq_eq_false_iff_ne.2 (by omega)
      have h2 : (n == s.size) = false := beq_eq_false_iff_ne.2 hn
      rw [decide_eq_false hn]
      clear hn
      go_enter Tryz.func44, Tryz.ntmps44
      go_wp2_with fail
      refine (HH.out _).mono ?_
      rintro e w1 ⟨rfl, rfl⟩
      go_wp2_with fail
      refine (HS.out _).mono ?_
      rintro e w1 ⟨rfl, q, rfl⟩
      go_wp2
      go_ret
      exact ⟨rfl, q, rfl⟩
theorem rpath_no_sign {s : ByteArray} (h : pathStop s < s.size) : isPathB s = false := by
  unfold isPathB
  rw [decide_eq_false (show ¬ pathStop s = s.size by omega)]
  simp
theorem rpath_empty {s : ByteArray} (h : s.size = 0) : isPathB s = false := by
  unfold isPathB
  rw [decide_eq_false (show ¬ 0 < s.size by omega)]
  rfl
theorem rpath_head {s : ByteArray} (h : ¬ bt s 0 = 47) : isPathB s = false := by
  unfold isPathB
  rw [decide_eq_false h]
  simp
theorem stop_le (s : ByteArray) : pathStop s ≤ s.size := Nat.le_trans (path_cut s).2.1 (place_le s 63)
theorem rpath_yes {s : ByteArray} (h0 : 0 < s.size) (h1 : bt s 0 = 47) (h2 : ¬ pathStop s < s.size) : isPathB s = true := by
  have := stop_le s
  unfold isPathB
  rw [decide_eq_true h0, decide_eq_true h1, decide_eq_true (show pathStop s = s.size by omega)]
  rfl
set_option maxRecDepth 20000 in
theorem rIsPath_any (s : ByteArray) (w : World) (hs : s.size ≤ 1099511627776) :
    Calls Tryz.prog 41 #[.string s] w fun e w' => e = .returned (.bool (isPathB s)) ∧ w = w' := by
  have HQ := Lib.hid (fun w => scan_path s w hs)
  unfold scanVal at HQ
  by_cases h0 : s.size = 0
  · have he : s.toList.isEmpty = true := by rw [empty_eq]; exact decide_eq_true h0
    rw [rpath_empty h0]
    clear h0
    generalize scanR pathSign s 53 = r at *
    go_enter Tryz.func41, Tryz.ntmps41
    go_wp2_with fail
    refine (HQ.out _).mono ?_
    rintro e w1 ⟨rfl, rfl⟩
    go_wp2
    go_ret
    exact ⟨rfl, rfl⟩
  · have he : s.toList.isEmpty = false := by rw [empty_eq]; exact decide_eq_false h0
    have hlt : 0 < s.size := by omega
    have hb := @bt_eq s 0 hlt
    by_cases h47 : bt s 0 = 47
    · have hh : (bt s 0 == 47) = true := by rw [h47]; rfl
      by_cases hp : pathStop s < s.size
      · have hne := wrongE_code s (pathStop s) 53 (.inl rfl)
        rw [scan_yes hp] at HQ
        rw [show stopF pathSign s 0 = pathStop s from rfl] at HQ
        rw [rpath_no_sign hp]
        dsimp only at HQ
        have hne2 : (wrongE s (pathStop s) 53 == 0) = false := by simpa using hne
        clear hne hp h47 h0
        generalize wrongE s (pathStop s) 53 = er at *
        generalize pathStop s = n at *
        go_enter Tryz.func41, Tryz.ntmps41
        go_wp2_with fail
        refine (HQ.out _).mono ?_
        rintro e w1 ⟨rfl, rfl⟩
        go_wp2
        go_ret
        exact ⟨rfl, rfl⟩
      · rw [scan_no hp] at HQ
        rw [rpath_yes hlt h47 hp]
        dsimp only at HQ
        clear hp h47 h0
        go_enter Tryz.func41, Tryz.ntmps41
        go_wp2_with fail
        refine (HQ.out _).mono ?_
        rintro e w1 ⟨rfl, rfl⟩
        go_wp2
        go_ret
        exact ⟨rfl, rfl⟩
    · have hh : (bt s 0 == 47) = false := by simpa using h47
      rw [rpath_head h47]
      clear h47 h0
      generalize scanR pathSign s 53 = r at *
      go_enter Tryz.func41, Tryz.ntmps41
      go_wp2_with fail
      refine (HQ.out _).mono ?_
      rintro e w1 ⟨rfl, rfl⟩
      go_wp2
      go_ret
      exact ⟨rfl, rfl⟩
set_option maxRecDepth 20000 in
theorem litePrefix_any (s : ByteArray) (w : World) (hh : heads s 47 = true) (hs : s.size ≤ 4194304) :
    Calls Tryz.prog 105 #[.string s, .string ⟨#[47]⟩] w fun e w' => e = .returned (.tuple #[.string (behind1 s), .bool true]) ∧ w = w' := by
  have HP : Calls Tryz.prog 104 #[.string s, .string ⟨#[47]⟩] w fun e w' => e = .returned (.bool true) ∧ w = w' :=
    (Tryz.stringslite_HasPrefix s ⟨#[47]⟩ w).mono fun _ _ ⟨he, hw⟩ => ⟨by rw [he]; have := prefix_one s 47; rw [show ((47 : UInt8).toNat : Int) = 47 from rfl, hh] at this; exact ret_bool this, hw.symm⟩
  have HP := Lib.hid HP
  have h1 : 1 ≤ s.size := by
    unfold heads at hh
    simp at hh
    omega
  unfold behind1
  clear hh
  go_enter Tryz.func105, Tryz.ntmps105
  go_wp2_with fail
  refine HP.out.mono ?_
  rintro e w1 ⟨rfl, rfl⟩
  go_wp2
  go_ret2
  exact ⟨rfl, rfl⟩
set_option maxRecDepth 20000 in
theorem CutPrefix_any (s : ByteArray) (w : World) (hh : heads s 47 = true) (hs : s.size ≤ 4194304) :
    Calls Tryz.prog 77 #[.string s, .string ⟨#[47]⟩] w fun e w' => e = .returned (.tuple #[.string (behind1 s), .bool true]) ∧ w = w' := by
  have HP := Lib.hid (litePrefix_any s w hh hs)
  clear hh
  generalize behind1 s = t at *
  go_enter Tryz.func77, Tryz.ntmps77
  go_wp2_with fail
  refine HP.out.mono ?_
  rintro e w1 ⟨rfl, rfl⟩
  go_wp2
  go_ret2
  exact ⟨rfl, rfl⟩
end Go.Proofs.YtjlnbjlhlglneaaGreatDoor
