/-
  The response that tells a status: the walks of the program's and the reference's function.
-/
import Derived.Test.YtdipogmlpmkgcaaGreatDoorChF
import Derived.Test.YtdipogmlpmkgcaaGreatDoorChR
import Derived.Below
namespace Go.Proofs.YtdipogmlpmkgcaaGreatDoor
open Go.RowKit Go.Shelf Go.Lib

theorem box6 {w w1 : World} {cs : Array Value} {t : TypeId} (h : Below (w.heap.size + 1) (w.alloc (.cells cs t)) w1) (k : Nat) : w1.cell? ⟨w.heap.size, k, none⟩ = cs[k]? ∧ w1.frozen? ⟨w.heap.size, k, none⟩ = false := by
  refine ⟨?_, ?_⟩
  · rw [h.cell (p := ⟨w.heap.size, k, none⟩) (by simp), World.cell?_alloc_new]
  · rw [h.frozen (p := ⟨w.heap.size, k, none⟩) (by simp)]; simp
theorem own_less {w : World} {b b' sz n : Nat} {E : TypeId} {v : Value} {xs : List Value} (h : w.ownsRow b E sz v n xs) (hb : b' ≤ b) : w.ownsRow b' E sz v n xs := World.ownsRow.mono h hb
theorem box_size {w w1 : World} {o : Obj} (h : Below (w.heap.size + 1) (w.alloc o) w1) : w.heap.size < w1.heap.size := by have := h.size; simp at this; omega
theorem below_box {w w1 : World} {o : Obj} (h : Below (w.heap.size + 1) (w.alloc o) w1) : Below w.heap.size w w1 :=
  ((Below.refl w.heap.size w).alloc (Nat.le_refl _) o).trans (h.mono (by omega))
def ctF : Fl := (⟨#[67, 111, 110, 116, 101, 110, 116, 45, 84, 121, 112, 101]⟩, ⟨#[116, 101, 120, 116, 47, 112, 108, 97, 105, 110, 59, 32, 99, 104, 97, 114, 115, 101, 116, 61, 117, 116, 102, 45, 56]⟩)
/-- The word of a status. -/
def wordP (n : Int) : ByteArray := if (reasonP n).size = 0 then (⟨#[83, 116, 97, 116, 117, 115, 32]⟩ : ByteArray) ++ itoaT n else reasonP n
def bodyP (n : Int) : ByteArray := wordP n ++ (⟨#[10]⟩ : ByteArray)
theorem reasonP_size (n : Int) : (reasonP n).size ≤ 64 := by
  by_cases h : ∃ x ∈ tabR, x.1 = n
  · obtain ⟨x, hx, rfl⟩ := h
    rw [reasonP_in hx]
    have h2 : tabR.all (fun x => decide (x.2.2.size ≤ 64)) = true := by decide +kernel
    exact of_decide_eq_true (List.all_eq_true.1 h2 x hx)
  · rw [reasonP_out fun x hx e => h ⟨x, hx, e⟩]
    decide
theorem itoaT_size {n : Int} (h0 : -9223372036854775808 ≤ n) (h1 : n ≤ 9223372036854775807) : (itoaT n).size ≤ 32 := by
  show (Lib.itoa n).toArray.size ≤ 32
  rw [List.size_toArray]
  unfold Lib.itoa
  split
  · rw [List.length_cons, Lib.decDigits_length]
    have := Lib.nDigits_le20 n.natAbs (by omega)
    omega
  · rw [Lib.decDigits_length]
    have := Lib.nDigits_le20 n.toNat (by omega)
    omega
/-- What Plain hands back. -/
def GivesR (T : TypeId) (w : World) (n : Int) (fs : List Fl) (b : ByteArray) (e : Ending) (w' : World) : Prop :=
  ∃ A c, e = .returned (.agg #[.int .i64 n, .string ⟨#[]⟩, .slice A fs.length c, .string b]) ∧ w'.ownsRow w.heap.size T 2 (.slice A fs.length c) fs.length (flat fs) ∧ Below w.heap.size w w'

set_option maxRecDepth 20000 in
set_option maxHeartbeats 4000000 in
theorem Plain_any (n : Int) (A : Option Addr) (c : Nat) (l : List Fl) (w : World) (hr : Row w A (flat l)) (hl : l.length ≤ 4398046511102) (h0 : -9223372036854775808 ≤ n) (h1 : n ≤ 9223372036854775807) (hg : GlobC w) :
    Calls Tryz.prog 7 #[.int .i64 n, .slice A l.length c] w (GivesR 36 w n (ctF :: l) (bodyP n)) := by
  obtain ⟨i0, hi0, hz0, hz1, hz2⟩ := info_parts info_field
  have HR := Lib.hid (fun w => show Calls Tryz.prog 12 #[.int .i64 n] w fun e w' => e = .returned (.string (reasonP n)) ∧ Below w.heap.size w w' from (message_Reason_any n w).mono fun e w' h => ⟨h.1, by rw [← h.2]; exact Below.refl _ _⟩)
  have HD := Lib.hid (fun (w1 : World) (hb : Below w.heap.size w w1) => Digits_any n w1 h0 h1 (hg.beyond hb))
  have hz := reasonP_size n
  have hzi := itoaT_size h0 h1
  have HB := Lib.hid (show bodyP n = wordP n ++ (⟨#[10]⟩ : ByteArray) from rfl)
  have hfl : flat (ctF :: l) = flat [ctF] ++ flat l := flat_append [ctF] l
  have HFL := Lib.hid hfl
  clear hfl
  generalize bodyP n = bd at *
  by_cases hq : (reasonP n).size = 0
  · have he : (reasonP n).toList.isEmpty = true := by rw [empty_eq]; exact decide_eq_true hq
    have HW := Lib.hid (show wordP n = (⟨#[83, 116, 97, 116, 117, 115, 32]⟩ : ByteArray) ++ itoaT n by unfold wordP; rw [if_pos hq])
    generalize wordP n = wd at *
    generalize itoaT n = it at *
    generalize reasonP n = rs at *
    clear hq
    go_enter Tryz.func7, Tryz.ntmps7
    go_wp2_with fail
    refine (HR.out _).mono ?_
    rintro e w1 ⟨rfl, b1⟩
    have b1' : Below (w.heap.size + 1) (w.alloc (.cells #[.int .i64 0, .string ⟨#[]⟩, .slice none 0 0, .string ⟨#[]⟩] 28)) w1 := by simpa using b1
    clear b1
    go_wp2_with fail
    refine (HD.out w1 (below_box b1')).mono ?_
    rintro e w2 ⟨rfl, b2⟩
    have b2' := b1'.trans (b2.mono (by have := b1'.size; simpa using this))
    clear b2 b1'
    have hsz := box_size b2'
    have hr2 := hr.below (below_box b2')
    have hown0 : (w2.alloc (.cells #[.string ctF.1, .string ctF.2] 36)).ownsRow (w.heap.size + 1) 36 2 (.slice (some ⟨w2.heap.size, 0, none⟩) 1 1) 1 (flat [ctF]) := own_less (World.ownsRow_lit w2 #[.string ctF.1, .string ctF.2] 1 (Nat.le_refl _) (by unfold maxLen; omega) rfl) (by omega)
    go_wp2_with (at_builtin; refine wpList_append_any _ rfl _ _ 22 rfl (w.heap.size + 1) 36 i0 (.agg #[.string ⟨#[]⟩, .string ⟨#[]⟩]) 2 32 Tryz.underlying22 hi0 hz0 hz1 hz2 rfl (by decide) _ 1 (flat [ctF]) rfl hown0 _ A l.length c (flat l) rfl (reads_of_row (hr2.alloc _) (flat_length l) (by decide)) ?c1 ?c2 ?c3 ?c4 ?c5)
    case c1 => exact flat_oneCell l
    case c2 => unfold maxLen; omega
    case c3 => omega
    case c4 => simp; omega
    case c5 =>
      intro v' w3 hown hg _
      have hb3 := (b2'.alloc (by omega) (.cells #[.string ctF.1, .string ctF.2] 36)).grown hg (by simp; omega) (fun k hk => by simp [Value.ownBlock] at hk; omega)
      have hov : w3.ownsRow (w.heap.size + 1) 36 2 v' (ctF :: l).length (flat (ctF :: l)) := by rw [HFL.out, List.length_cons, Nat.add_comm l.length 1]; exact hown
      clear hg hown hown0 b2'
      obtain ⟨A', c', rfl⟩ := own_slice hov
      obtain ⟨c0, f0⟩ := box6 hb3 0
      obtain ⟨c1, f1⟩ := box6 hb3 1
      obtain ⟨c2, f2⟩ := box6 hb3 2
      obtain ⟨c3, f3⟩ := box6 hb3 3
      have hsz3 := box_size hb3
      have hbw := below_box hb3
      have HOV := Lib.hid hov
      have HBW := Lib.hid hbw
      clear hb3 hov hbw
      go_wp2
      exact bodyPost_ret (v := .agg #[.int .i64 n, .string ⟨#[]⟩, .slice A' (l.length + 1) c', .string (((⟨#[83, 116, 97, 116, 117, 115, 32]⟩ : ByteArray) ++ it) ++ (⟨#[10]⟩ : ByteArray))]) (by simp [results, Tryz.results7, go_sem, c0, c1, c2, c3]) rfl ⟨A', c', by rw [HB.out, HW.out]; rfl, own_less (ownsRow_setCell_below (ownsRow_setCell_below (ownsRow_setCell_below (ownsRow_setCell_below HOV.out (by simp) _) (by simp) _) (by simp) _) (by simp) _) (by omega), by (repeat (first | (with_reducible refine Below.setCell ?_ (by simp) _))); exact HBW.out⟩
  · have he : (reasonP n).toList.isEmpty = false := by rw [empty_eq]; exact decide_eq_false hq
    have HW := Lib.hid (show wordP n = reasonP n by unfold wordP; rw [if_neg hq])
    generalize wordP n = wd at *
    generalize itoaT n = it at *
    generalize reasonP n = rs at *
    clear hq
    go_enter Tryz.func7, Tryz.ntmps7
    go_wp2_with fail
    refine (HR.out _).mono ?_
    rintro e w2 ⟨rfl, b1⟩
    have b2' : Below (w.heap.size + 1) (w.alloc (.cells #[.int .i64 0, .string ⟨#[]⟩, .slice none 0 0, .string ⟨#[]⟩] 28)) w2 := by simpa using b1
    clear b1
    have hsz := box_size b2'
    have hr2 := hr.below (below_box b2')
    have hown0 : (w2.alloc (.cells #[.string ctF.1, .string ctF.2] 36)).ownsRow (w.heap.size + 1) 36 2 (.slice (some ⟨w2.heap.size, 0, none⟩) 1 1) 1 (flat [ctF]) := own_less (World.ownsRow_lit w2 #[.string ctF.1, .string ctF.2] 1 (Nat.le_refl _) (by unfold maxLen; omega) rfl) (by omega)
    go_wp2_with (at_builtin; refine wpList_append_any _ rfl _ _ 22 rfl (w.heap.size + 1) 36 i0 (.agg #[.string ⟨#[]⟩, .string ⟨#[]⟩]) 2 32 Tryz.underlying22 hi0 hz0 hz1 hz2 rfl (by decide) _ 1 (flat [ctF]) rfl hown0 _ A l.length c (flat l) rfl (reads_of_row (hr2.alloc _) (flat_length l) (by decide)) ?c1 ?c2 ?c3 ?c4 ?c5)
    case c1 => exact flat_oneCell l
    case c2 => unfold maxLen; omega
    case c3 => omega
    case c4 => simp; omega
    case c5 =>
      intro v' w3 hown hg _
      have hb3 := (b2'.alloc (by omega) (.cells #[.string ctF.1, .string ctF.2] 36)).grown hg (by simp; omega) (fun k hk => by simp [Value.ownBlock] at hk; omega)
      have hov : w3.ownsRow (w.heap.size + 1) 36 2 v' (ctF :: l).length (flat (ctF :: l)) := by rw [HFL.out, List.length_cons, Nat.add_comm l.length 1]; exact hown
      clear hg hown hown0 b2'
      obtain ⟨A', c', rfl⟩ := own_slice hov
      obtain ⟨c0, f0⟩ := box6 hb3 0
      obtain ⟨c1, f1⟩ := box6 hb3 1
      obtain ⟨c2, f2⟩ := box6 hb3 2
      obtain ⟨c3, f3⟩ := box6 hb3 3
      have hsz3 := box_size hb3
      have hbw := below_box hb3
      have HOV := Lib.hid hov
      have HBW := Lib.hid hbw
      clear hb3 hov hbw
      go_wp2
      exact bodyPost_ret (v := .agg #[.int .i64 n, .string ⟨#[]⟩, .slice A' (l.length + 1) c', .string (rs ++ (⟨#[10]⟩ : ByteArray))]) (by simp [results, Tryz.results7, go_sem, c0, c1, c2, c3]) rfl ⟨A', c', by rw [HB.out, HW.out]; rfl, own_less (ownsRow_setCell_below (ownsRow_setCell_below (ownsRow_setCell_below (ownsRow_setCell_below HOV.out (by simp) _) (by simp) _) (by simp) _) (by simp) _) (by omega), by (repeat (first | (with_reducible refine Below.setCell ?_ (by simp) _))); exact HBW.out⟩

set_option maxRecDepth 20000 in
set_option maxHeartbeats 4000000 in
theorem rPlain_any (n : Int) (A : Option Addr) (c : Nat) (l : List Fl) (w : World) (hr : Row w A (flat l)) (hl : l.length ≤ 4398046511102) (h0 : -9223372036854775808 ≤ n) (h1 : n ≤ 9223372036854775807) (hD : ∀ x ∈ tabR, x.2.1 = dig12 n ↔ x.1 = n) :
    Calls Tryz.prog 8 #[.int .i64 n, .slice A l.length c] w (GivesR 37 w n (ctF :: l) (bodyP n)) := by
  obtain ⟨i0, hi0, hz0, hz1, hz2⟩ := info_parts info_rfield
  have HR := Lib.hid (fun w => (show Calls Tryz.prog 14 #[.int .i64 n] w fun e w' => e = .returned (.string (reasonP n)) ∧ Below w.heap.size w w' by rw [← reasons_same hD]; exact rReason_any n w h1))
  have HD := Lib.hid (fun (w1 : World) (_ : Below w.heap.size w w1) => rDigits_any n w1 h0 h1)
  have hz := reasonP_size n
  have hzi := itoaT_size h0 h1
  have HB := Lib.hid (show bodyP n = wordP n ++ (⟨#[10]⟩ : ByteArray) from rfl)
  have hfl : flat (ctF :: l) = flat [ctF] ++ flat l := flat_append [ctF] l
  have HFL := Lib.hid hfl
  clear hfl
  generalize bodyP n = bd at *
  by_cases hq : (reasonP n).size = 0
  · have he : (reasonP n).toList.isEmpty = true := by rw [empty_eq]; exact decide_eq_true hq
    have HW := Lib.hid (show wordP n = (⟨#[83, 116, 97, 116, 117, 115, 32]⟩ : ByteArray) ++ itoaT n by unfold wordP; rw [if_pos hq])
    generalize wordP n = wd at *
    generalize itoaT n = it at *
    generalize reasonP n = rs at *
    clear hq
    go_enter Tryz.func8, Tryz.ntmps8
    go_wp2_with fail
    refine (HR.out _).mono ?_
    rintro e w1 ⟨rfl, b1⟩
    have b1' : Below (w.heap.size + 1) (w.alloc (.cells #[.int .i64 0, .string ⟨#[]⟩, .slice none 0 0, .string ⟨#[]⟩] 31)) w1 := by simpa using b1
    clear b1
    go_wp2_with fail
    refine (HD.out w1 (below_box b1')).mono ?_
    rintro e w2 ⟨rfl, b2⟩
    have b2' := b1'.trans (b2.mono (by have := b1'.size; simpa using this))
    clear b2 b1'
    have hsz := box_size b2'
    have hr2 := hr.below (below_box b2')
    have hown0 : (w2.alloc (.cells #[.string ctF.1, .string ctF.2] 37)).ownsRow (w.heap.size + 1) 37 2 (.slice (some ⟨w2.heap.size, 0, none⟩) 1 1) 1 (flat [ctF]) := own_less (World.ownsRow_lit w2 #[.string ctF.1, .string ctF.2] 1 (Nat.le_refl _) (by unfold maxLen; omega) rfl) (by omega)
    go_wp2_with (at_builtin; refine wpList_append_any _ rfl _ _ 23 rfl (w.heap.size + 1) 37 i0 (.agg #[.string ⟨#[]⟩, .string ⟨#[]⟩]) 2 32 Tryz.underlying23 hi0 hz0 hz1 hz2 rfl (by decide) _ 1 (flat [ctF]) rfl hown0 _ A l.length c (flat l) rfl (reads_of_row (hr2.alloc _) (flat_length l) (by decide)) ?c1 ?c2 ?c3 ?c4 ?c5)
    case c1 => exact flat_oneCell l
    case c2 => unfold maxLen; omega
    case c3 => omega
    case c4 => simp; omega
    case c5 =>
      intro v' w3 hown hg _
      have hb3 := (b2'.alloc (by omega) (.cells #[.string ctF.1, .string ctF.2] 37)).grown hg (by simp; omega) (fun k hk => by simp [Value.ownBlock] at hk; omega)
      have hov : w3.ownsRow (w.heap.size + 1) 37 2 v' (ctF :: l).length (flat (ctF :: l)) := by rw [HFL.out, List.length_cons, Nat.add_comm l.length 1]; exact hown
      clear hg hown hown0 b2'
      obtain ⟨A', c', rfl⟩ := own_slice hov
      obtain ⟨c0, f0⟩ := box6 hb3 0
      obtain ⟨c1, f1⟩ := box6 hb3 1
      obtain ⟨c2, f2⟩ := box6 hb3 2
      obtain ⟨c3, f3⟩ := box6 hb3 3
      have hsz3 := box_size hb3
      have hbw := below_box hb3
      have HOV := Lib.hid hov
      have HBW := Lib.hid hbw
      clear hb3 hov hbw
      go_wp2
      exact bodyPost_ret (v := .agg #[.int .i64 n, .string ⟨#[]⟩, .slice A' (l.length + 1) c', .string (((⟨#[83, 116, 97, 116, 117, 115, 32]⟩ : ByteArray) ++ it) ++ (⟨#[10]⟩ : ByteArray))]) (by simp [results, Tryz.results8, go_sem, c0, c1, c2, c3]) rfl ⟨A', c', by rw [HB.out, HW.out]; rfl, own_less (ownsRow_setCell_below (ownsRow_setCell_below (ownsRow_setCell_below (ownsRow_setCell_below HOV.out (by simp) _) (by simp) _) (by simp) _) (by simp) _) (by omega), by (repeat (first | (with_reducible refine Below.setCell ?_ (by simp) _))); exact HBW.out⟩
  · have he : (reasonP n).toList.isEmpty = false := by rw [empty_eq]; exact decide_eq_false hq
    have HW := Lib.hid (show wordP n = reasonP n by unfold wordP; rw [if_neg hq])
    generalize wordP n = wd at *
    generalize itoaT n = it at *
    generalize reasonP n = rs at *
    clear hq
    go_enter Tryz.func8, Tryz.ntmps8
    go_wp2_with fail
    refine (HR.out _).mono ?_
    rintro e w2 ⟨rfl, b1⟩
    have b2' : Below (w.heap.size + 1) (w.alloc (.cells #[.int .i64 0, .string ⟨#[]⟩, .slice none 0 0, .string ⟨#[]⟩] 31)) w2 := by simpa using b1
    clear b1
    have hsz := box_size b2'
    have hr2 := hr.below (below_box b2')
    have hown0 : (w2.alloc (.cells #[.string ctF.1, .string ctF.2] 37)).ownsRow (w.heap.size + 1) 37 2 (.slice (some ⟨w2.heap.size, 0, none⟩) 1 1) 1 (flat [ctF]) := own_less (World.ownsRow_lit w2 #[.string ctF.1, .string ctF.2] 1 (Nat.le_refl _) (by unfold maxLen; omega) rfl) (by omega)
    go_wp2_with (at_builtin; refine wpList_append_any _ rfl _ _ 23 rfl (w.heap.size + 1) 37 i0 (.agg #[.string ⟨#[]⟩, .string ⟨#[]⟩]) 2 32 Tryz.underlying23 hi0 hz0 hz1 hz2 rfl (by decide) _ 1 (flat [ctF]) rfl hown0 _ A l.length c (flat l) rfl (reads_of_row (hr2.alloc _) (flat_length l) (by decide)) ?c1 ?c2 ?c3 ?c4 ?c5)
    case c1 => exact flat_oneCell l
    case c2 => unfold maxLen; omega
    case c3 => omega
    case c4 => simp; omega
    case c5 =>
      intro v' w3 hown hg _
      have hb3 := (b2'.alloc (by omega) (.cells #[.string ctF.1, .string ctF.2] 37)).grown hg (by simp; omega) (fun k hk => by simp [Value.ownBlock] at hk; omega)
      have hov : w3.ownsRow (w.heap.size + 1) 37 2 v' (ctF :: l).length (flat (ctF :: l)) := by rw [HFL.out, List.length_cons, Nat.add_comm l.length 1]; exact hown
      clear hg hown hown0 b2'
      obtain ⟨A', c', rfl⟩ := own_slice hov
      obtain ⟨c0, f0⟩ := box6 hb3 0
      obtain ⟨c1, f1⟩ := box6 hb3 1
      obtain ⟨c2, f2⟩ := box6 hb3 2
      obtain ⟨c3, f3⟩ := box6 hb3 3
      have hsz3 := box_size hb3
      have hbw := below_box hb3
      have HOV := Lib.hid hov
      have HBW := Lib.hid hbw
      clear hb3 hov hbw
      go_wp2
      exact bodyPost_ret (v := .agg #[.int .i64 n, .string ⟨#[]⟩, .slice A' (l.length + 1) c', .string (rs ++ (⟨#[10]⟩ : ByteArray))]) (by simp [results, Tryz.results8, go_sem, c0, c1, c2, c3]) rfl ⟨A', c', by rw [HB.out, HW.out]; rfl, own_less (ownsRow_setCell_below (ownsRow_setCell_below (ownsRow_setCell_below (ownsRow_setCell_below HOV.out (by simp) _) (by simp) _) (by simp) _) (by simp) _) (by omega), by (repeat (first | (with_reducible refine Below.setCell ?_ (by simp) _))); exact HBW.out⟩
end Go.Proofs.YtdipogmlpmkgcaaGreatDoor
