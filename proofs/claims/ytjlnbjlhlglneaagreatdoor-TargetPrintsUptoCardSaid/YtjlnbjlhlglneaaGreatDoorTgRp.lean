/-
  Reading a target: the walk of the reference's function.
-/
import Derived.Test.YtjlnbjlhlglneaaGreatDoorTgPr
import Derived.Test.YtjlnbjlhlglneaaGreatDoorTgRs
import Derived.Test.YtjlnbjlhlglneaaGreatDoorTgHp
namespace Go.Proofs.YtjlnbjlhlglneaaGreatDoor
open Go.RowKit Go.Shelf Go.Lib

section
variable {m s : ByteArray}
theorem rabs_ok {k : Nat} {h : ByteArray} {p : Int} (hk : endA s 7 = k) (ha : authR (s.extract 7 k) = (h, p, 0)) : absR s = behindR (Tg.with_ 2 h p) s k := by
  unfold absR
  rw [hk, ha, if_pos rfl]
  rfl
theorem rabs_no {k : Nat} {h : ByteArray} {p e : Int} (hk : endA s 7 = k) (ha : authR (s.extract 7 k) = (h, p, e)) (he : ¬ e = 0) : absR s = (noTg, 7, 52) := by
  unfold absR
  rw [hk, ha, if_neg he]
end
set_option maxRecDepth 100000 in
set_option maxHeartbeats 4000000 in
theorem Rparse_empty (m s : ByteArray) (w : World) (h0 : s.size = 0) :
    Calls Tryz.prog 30 #[.string m, .string s] w fun e w' => e = .returned (tgVal (parseT m s)) ∧ Below w.heap.size w w' := by
  have he : s.toList.isEmpty = true := by rw [empty_eq]; exact decide_eq_true h0
  have HR := Lib.hid (takes_empty (m := m) h0)
  clear h0
  go_enter Tryz.func30, Tryz.ntmps30
  go_wp2
  exact bodyPost_ret (v := tgVal (noTg, 0, 50)) (by simp [results, Tryz.results30, go_sem, tgVal, Tg.val, noTg]) rfl ⟨ret_tg HR.out.symm, by (repeat (first | (with_reducible refine Below.setCell ?_ (by simp) _) | (with_reducible refine below_drewN ?_ _) | (with_reducible refine Below.alloc ?_ (by simp) _))); exact Below.refl _ _⟩
set_option maxRecDepth 100000 in
set_option maxHeartbeats 4000000 in
theorem Rparse_conn (m s : ByteArray) (w : World) (hs : s.size ≤ 4194304) (h0 : ¬ s.size = 0) (hm : m = connT) :
    Calls Tryz.prog 30 #[.string m, .string s] w fun e w' => e = .returned (tgVal (parseT m s)) ∧ Below w.heap.size w w' := by
  have he : s.toList.isEmpty = false := by rw [empty_eq]; exact decide_eq_false h0
  have hmm : (m.toList == [67, 79, 78, 78, 69, 67, 84]) = true := by rw [← conn_list]; exact (eq_str m connT).trans (decide_eq_true hm)
  have HA := Lib.hid (HostPort_any s (w.alloc (.cells #[.int .i64 0, .string ⟨#[]⟩, .int .i64 0, .string ⟨#[]⟩, .string ⟨#[]⟩, .bool false] 29)) hs)
  unfold authVal at HA
  rw [takes_conn h0 hm]
  generalize ha : authR s = r at *
  obtain ⟨h, p, er⟩ := r
  dsimp only at HA
  have hno := @conn_no s h p er ha
  have hok := @conn_ok s h p
  clear h0 hm
  by_cases hz : er = 0
  · subst hz
    by_cases hp : 0 ≤ p
    · have hd : decide (p < 0) = false := decide_eq_false (by omega)
      have HR := Lib.hid (hok ha hp)
      clear hno hok ha
      go_enter Tryz.func30, Tryz.ntmps30
      go_wp2_with fail
      refine HA.out.mono ?_
      rintro e w1 ⟨rfl, b1⟩
      have b0' : Below (w.heap.size + 1) (w.alloc (.cells #[.int .i64 0, .string ⟨#[]⟩, .int .i64 0, .string ⟨#[]⟩, .string ⟨#[]⟩, .bool false] 29)) w1 := by simpa using b1
      obtain ⟨c0, f0⟩ := box6 b0' 0
      obtain ⟨c1, f1⟩ := box6 b0' 1
      obtain ⟨c2, f2⟩ := box6 b0' 2
      obtain ⟨c3, f3⟩ := box6 b0' 3
      obtain ⟨c4, f4⟩ := box6 b0' 4
      obtain ⟨c5, f5⟩ := box6 b0' 5
      have hsz := box_size b0'
      have hbw := below_box b0'
      clear b1 b0'
      go_wp2
      exact bodyPost_ret (v := tgVal (⟨3, h, p, ⟨#[]⟩, ⟨#[]⟩, false⟩, 0, 0)) (by simp [results, Tryz.results30, go_sem, tgVal, Tg.val, c0, c1, c2, c3, c4, c5]) rfl ⟨ret_tg HR.out.symm, by (repeat (first | (with_reducible refine Below.setCell ?_ (by simp) _) | (with_reducible refine below_drewN ?_ _) | (with_reducible refine Below.alloc ?_ (by simp) _))); exact hbw⟩
    · have hd : decide (p < 0) = true := decide_eq_true (by omega)
      have HR := Lib.hid (hno (by omega))
      clear hno hok ha
      go_enter Tryz.func30, Tryz.ntmps30
      go_wp2_with fail
      refine HA.out.mono ?_
      rintro e w1 ⟨rfl, b1⟩
      have b0' : Below (w.heap.size + 1) (w.alloc (.cells #[.int .i64 0, .string ⟨#[]⟩, .int .i64 0, .string ⟨#[]⟩, .string ⟨#[]⟩, .bool false] 29)) w1 := by simpa using b1
      obtain ⟨c0, f0⟩ := box6 b0' 0
      obtain ⟨c1, f1⟩ := box6 b0' 1
      obtain ⟨c2, f2⟩ := box6 b0' 2
      obtain ⟨c3, f3⟩ := box6 b0' 3
      obtain ⟨c4, f4⟩ := box6 b0' 4
      obtain ⟨c5, f5⟩ := box6 b0' 5
      have hsz := box_size b0'
      have hbw := below_box b0'
      clear b1 b0'
      go_wp2
      exact bodyPost_ret (v := tgVal (noTg, 0, 52)) (by simp [results, Tryz.results30, go_sem, tgVal, Tg.val, noTg, c0, c1, c2, c3, c4, c5]) rfl ⟨ret_tg HR.out.symm, by (repeat (first | (with_reducible refine Below.setCell ?_ (by simp) _) | (with_reducible refine below_drewN ?_ _) | (with_reducible refine Below.alloc ?_ (by simp) _))); exact hbw⟩
  · have hd : (er != 0) = true := by simpa using hz
    have HR := Lib.hid (hno (by omega))
    clear hno hok ha
    go_enter Tryz.func30, Tryz.ntmps30
    go_wp2_with fail
    refine HA.out.mono ?_
    rintro e w1 ⟨rfl, b1⟩
    have b0' : Below (w.heap.size + 1) (w.alloc (.cells #[.int .i64 0, .string ⟨#[]⟩, .int .i64 0, .string ⟨#[]⟩, .string ⟨#[]⟩, .bool false] 29)) w1 := by simpa using b1
    obtain ⟨c0, f0⟩ := box6 b0' 0
    obtain ⟨c1, f1⟩ := box6 b0' 1
    obtain ⟨c2, f2⟩ := box6 b0' 2
    obtain ⟨c3, f3⟩ := box6 b0' 3
    obtain ⟨c4, f4⟩ := box6 b0' 4
    obtain ⟨c5, f5⟩ := box6 b0' 5
    have hsz := box_size b0'
    have hbw := below_box b0'
    clear b1 b0'
    go_wp2
    exact bodyPost_ret (v := tgVal (noTg, 0, 52)) (by simp [results, Tryz.results30, go_sem, tgVal, Tg.val, noTg, c0, c1, c2, c3, c4, c5]) rfl ⟨ret_tg HR.out.symm, by (repeat (first | (with_reducible refine Below.setCell ?_ (by simp) _) | (with_reducible refine below_drewN ?_ _) | (with_reducible refine Below.alloc ?_ (by simp) _))); exact hbw⟩
set_option maxRecDepth 100000 in
set_option maxHeartbeats 4000000 in
theorem Rparse_origin (m s : ByteArray) (w : World) (hs : s.size ≤ 4194304) (h0 : ¬ s.size = 0) (hm : ¬ m = connT) (h47 : bt s 0 = 47) :
    Calls Tryz.prog 30 #[.string m, .string s] w fun e w' => e = .returned (tgVal (parseT m s)) ∧ Below w.heap.size w w' := by
  have he : s.toList.isEmpty = false := by rw [empty_eq]; exact decide_eq_false h0
  have hmm : (m.toList == [67, 79, 78, 78, 69, 67, 84]) = false := by rw [← conn_list]; exact (eq_str m connT).trans (decide_eq_false hm)
  have hpos : 0 < s.size := by omega
  have hb := @bt_eq s 0 hpos
  have h4 : (bt s 0 == 47) = true := by rw [h47]; rfl
  have hB := Lib.hid (fun w => rrest_any 1 ⟨#[]⟩ (-1) s 0 w (by omega) (by omega))
  rw [originR h0 hm h47]
  rw [show (Tg.with_ 1 ⟨#[]⟩ (-1)).val = .agg #[.int .i64 1, .string ⟨#[]⟩, .int .i64 (-1), .string ⟨#[]⟩, .string ⟨#[]⟩, .bool false] from rfl] at hB
  generalize behindR (Tg.with_ 1 ⟨#[]⟩ (-1)) s 0 = r at *
  obtain ⟨⟨f, h, p, pa, qu, hq⟩, i, er⟩ := r
  unfold tgVal Tg.val at hB
  dsimp only at hB
  rw [show ((0 : Nat) : Int) = 0 from rfl] at hB
  clear hm h47
  go_enter Tryz.func30, Tryz.ntmps30
  go_wp2_with fail
  refine (hB.out _).mono ?_
  rintro e w1 ⟨rfl, b1⟩
  have b0' : Below (w.heap.size + 1) (w.alloc (.cells #[.int .i64 0, .string ⟨#[]⟩, .int .i64 0, .string ⟨#[]⟩, .string ⟨#[]⟩, .bool false] 29)) w1 := by simpa using b1
  obtain ⟨c0, f0⟩ := box6 b0' 0
  obtain ⟨c1, f1⟩ := box6 b0' 1
  obtain ⟨c2, f2⟩ := box6 b0' 2
  obtain ⟨c3, f3⟩ := box6 b0' 3
  obtain ⟨c4, f4⟩ := box6 b0' 4
  obtain ⟨c5, f5⟩ := box6 b0' 5
  have hsz := box_size b0'
  have hbw := below_box b0'
  clear b1 b0'
  go_wp2
  exact bodyPost_ret (v := tgVal (⟨f, h, p, pa, qu, hq⟩, i, er)) (by simp [results, Tryz.results30, go_sem, tgVal, Tg.val, c0, c1, c2, c3, c4, c5]) rfl ⟨rfl, by (repeat (first | (with_reducible refine Below.setCell ?_ (by simp) _) | (with_reducible refine below_drewN ?_ _) | (with_reducible refine Below.alloc ?_ (by simp) _))); exact hbw⟩
set_option maxRecDepth 100000 in
set_option maxHeartbeats 4000000 in
theorem Rparse_star (m s : ByteArray) (w : World) (h0 : ¬ s.size = 0) (hm : ¬ m = connT) (h47 : ¬ bt s 0 = 47) (h : s = starT ∧ m = optT) :
    Calls Tryz.prog 30 #[.string m, .string s] w fun e w' => e = .returned (tgVal (parseT m s)) ∧ Below w.heap.size w w' := by
  have he : s.toList.isEmpty = false := by rw [empty_eq]; exact decide_eq_false h0
  have hmm : (m.toList == [67, 79, 78, 78, 69, 67, 84]) = false := by rw [← conn_list]; exact (eq_str m connT).trans (decide_eq_false hm)
  have hpos : 0 < s.size := by omega
  have hb := @bt_eq s 0 hpos
  have h4 : (bt s 0 == 47) = false := by simpa using h47
  have h5 : (s.toList == [42]) = true := by rw [← star_list]; exact (eq_str s starT).trans (decide_eq_true h.1)
  have h6 : (m.toList == [79, 80, 84, 73, 79, 78, 83]) = true := by rw [← opt_list]; exact (eq_str m optT).trans (decide_eq_true h.2)
  have HR := Lib.hid (takes_star h0 hm h47 h)
  clear h0 hm h47 h
  go_enter Tryz.func30, Tryz.ntmps30
  go_wp2
  exact bodyPost_ret (v := tgVal (⟨4, ⟨#[]⟩, -1, ⟨#[]⟩, ⟨#[]⟩, false⟩, 0, 0)) (by simp [results, Tryz.results30, go_sem, tgVal, Tg.val]) rfl ⟨ret_tg HR.out.symm, by (repeat (first | (with_reducible refine Below.setCell ?_ (by simp) _) | (with_reducible refine below_drewN ?_ _) | (with_reducible refine Below.alloc ?_ (by simp) _))); exact Below.refl _ _⟩
set_option maxRecDepth 100000 in
set_option maxHeartbeats 4000000 in
theorem Rparse_short (m s : ByteArray) (w : World) (h0 : ¬ s.size = 0) (hm : ¬ m = connT) (h47 : ¬ bt s 0 = 47) (h : ¬ (s = starT ∧ m = optT)) (h7 : s.size < 7) :
    Calls Tryz.prog 30 #[.string m, .string s] w fun e w' => e = .returned (tgVal (parseT m s)) ∧ Below w.heap.size w w' := by
  have he : s.toList.isEmpty = false := by rw [empty_eq]; exact decide_eq_false h0
  have hmm : (m.toList == [67, 79, 78, 78, 69, 67, 84]) = false := by rw [← conn_list]; exact (eq_str m connT).trans (decide_eq_false hm)
  have hpos : 0 < s.size := by omega
  have hb := @bt_eq s 0 hpos
  have h4 : (bt s 0 == 47) = false := by simpa using h47
  have hst : ((s.toList == [42]) = true ∧ (m.toList == [79, 80, 84, 73, 79, 78, 83]) = false) ∨ (s.toList == [42]) = false := by
    rw [← star_list, ← opt_list, eq_str, eq_str]
    by_cases e1 : s = starT
    · exact .inl ⟨decide_eq_true e1, decide_eq_false (fun e2 => h ⟨e1, e2⟩)⟩
    · exact .inr (decide_eq_false e1)
  have HR := Lib.hid (takes_no h0 hm h47 h (.inl h7))
  have hd : decide ((s.size : Int) < 7) = true := decide_eq_true (by omega)
  clear h0 hm h47 h h7
  rcases hst with ⟨h5, h6⟩ | h5
  all_goals
    go_enter Tryz.func30, Tryz.ntmps30
    go_wp2
    exact bodyPost_ret (v := tgVal (noTg, 0, 50)) (by simp [results, Tryz.results30, go_sem, tgVal, Tg.val, noTg]) rfl ⟨ret_tg HR.out.symm, by (repeat (first | (with_reducible refine Below.setCell ?_ (by simp) _) | (with_reducible refine below_drewN ?_ _) | (with_reducible refine Below.alloc ?_ (by simp) _))); exact Below.refl _ _⟩
set_option maxRecDepth 100000 in
set_option maxHeartbeats 4000000 in
theorem Rparse_scheme (m s : ByteArray) (w : World) (h0 : ¬ s.size = 0) (hm : ¬ m = connT) (h47 : ¬ bt s 0 = 47) (h : ¬ (s = starT ∧ m = optT)) (h7 : ¬ s.size < 7) (hh : lower (s.extract 0 7) ≠ httpT) :
    Calls Tryz.prog 30 #[.string m, .string s] w fun e w' => e = .returned (tgVal (parseT m s)) ∧ Below w.heap.size w w' := by
  have he : s.toList.isEmpty = false := by rw [empty_eq]; exact decide_eq_false h0
  have hmm : (m.toList == [67, 79, 78, 78, 69, 67, 84]) = false := by rw [← conn_list]; exact (eq_str m connT).trans (decide_eq_false hm)
  have hpos : 0 < s.size := by omega
  have hb := @bt_eq s 0 hpos
  have h4 : (bt s 0 == 47) = false := by simpa using h47
  have hst : ((s.toList == [42]) = true ∧ (m.toList == [79, 80, 84, 73, 79, 78, 83]) = false) ∨ (s.toList == [42]) = false := by
    rw [← star_list, ← opt_list, eq_str, eq_str]
    by_cases e1 : s = starT
    · exact .inl ⟨decide_eq_true e1, decide_eq_false (fun e2 => h ⟨e1, e2⟩)⟩
    · exact .inr (decide_eq_false e1)
  have hd : decide ((s.size : Int) < 7) = false := decide_eq_false (by omega)
  have hd2 : (7 : Int) ≤ (s.size : Int) := by omega
  have hz := ext_size s (a := 0) (b := 7) (by omega) (by omega)
  have HS := Lib.hid (rLower_any (s.extract 0 7) (w.alloc (.cells #[.int .i64 0, .string ⟨#[]⟩, .int .i64 0, .string ⟨#[]⟩, .string ⟨#[]⟩, .bool false] 29)) (by rw [hz]; unfold maxLen; omega))
  have HR := Lib.hid (takes_no h0 hm h47 h (.inr hh))
  have hl : ((lower (s.extract 0 7)).toList == [104, 116, 116, 112, 58, 47, 47]) = false := by rw [← http_list]; exact (eq_str _ httpT).trans (decide_eq_false hh)
  have hl2 : ((lower (s.extract 0 7)).toList != [104, 116, 116, 112, 58, 47, 47]) = true := by rw [bne, hl]; rfl
  clear h0 hm h47 h h7 hh hz
  generalize lower (s.extract 0 7) = pre at *
  rcases hst with ⟨h5, h6⟩ | h5
  all_goals
    go_enter Tryz.func30, Tryz.ntmps30
    go_wp2_with fail
    refine HS.out.mono ?_
    rintro e w1 ⟨rfl, b1⟩
    have b0' : Below (w.heap.size + 1) (w.alloc (.cells #[.int .i64 0, .string ⟨#[]⟩, .int .i64 0, .string ⟨#[]⟩, .string ⟨#[]⟩, .bool false] 29)) w1 := by simpa using b1
    obtain ⟨c0, f0⟩ := box6 b0' 0
    obtain ⟨c1, f1⟩ := box6 b0' 1
    obtain ⟨c2, f2⟩ := box6 b0' 2
    obtain ⟨c3, f3⟩ := box6 b0' 3
    obtain ⟨c4, f4⟩ := box6 b0' 4
    obtain ⟨c5, f5⟩ := box6 b0' 5
    have hsz := box_size b0'
    have hbw := below_box b0'
    clear b1 b0'
    go_wp2
    exact bodyPost_ret (v := tgVal (noTg, 0, 50)) (by simp [results, Tryz.results30, go_sem, tgVal, Tg.val, noTg, c0, c1, c2, c3, c4, c5]) rfl ⟨ret_tg HR.out.symm, by (repeat (first | (with_reducible refine Below.setCell ?_ (by simp) _) | (with_reducible refine below_drewN ?_ _) | (with_reducible refine Below.alloc ?_ (by simp) _))); exact hbw⟩
set_option maxRecDepth 100000 in
set_option maxHeartbeats 4000000 in
theorem Rparse_abs (m s : ByteArray) (w : World) (hs : s.size ≤ 4194304) (h0 : ¬ s.size = 0) (hm : ¬ m = connT) (h47 : ¬ bt s 0 = 47) (h : ¬ (s = starT ∧ m = optT)) (hh : ¬ (s.size < 7 ∨ lower (s.extract 0 7) ≠ httpT)) :
    Calls Tryz.prog 30 #[.string m, .string s] w fun e w' => e = .returned (tgVal (parseT m s)) ∧ Below w.heap.size w w' := by
  have he : s.toList.isEmpty = false := by rw [empty_eq]; exact decide_eq_false h0
  have hmm : (m.toList == [67, 79, 78, 78, 69, 67, 84]) = false := by rw [← conn_list]; exact (eq_str m connT).trans (decide_eq_false hm)
  have hpos : 0 < s.size := by omega
  have hb := @bt_eq s 0 hpos
  have h4 : (bt s 0 == 47) = false := by simpa using h47
  have hst : ((s.toList == [42]) = true ∧ (m.toList == [79, 80, 84, 73, 79, 78, 83]) = false) ∨ (s.toList == [42]) = false := by
    rw [← star_list, ← opt_list, eq_str, eq_str]
    by_cases e1 : s = starT
    · exact .inl ⟨decide_eq_true e1, decide_eq_false (fun e2 => h ⟨e1, e2⟩)⟩
    · exact .inr (decide_eq_false e1)
  have hd : decide ((s.size : Int) < 7) = false := decide_eq_false (by omega)
  have hd2 : (7 : Int) ≤ (s.size : Int) := by omega
  have hz := ext_size s (a := 0) (b := 7) (by omega) (by omega)
  have HS := Lib.hid (rLower_any (s.extract 0 7) (w.alloc (.cells #[.int .i64 0, .string ⟨#[]⟩, .int .i64 0, .string ⟨#[]⟩, .string ⟨#[]⟩, .bool false] 29)) (by rw [hz]; unfold maxLen; omega))
  have h7 : 7 ≤ s.size := by omega
  have hl : ((lower (s.extract 0 7)).toList == [104, 116, 116, 112, 58, 47, 47]) = true := by rw [← http_list]; exact (eq_str _ httpT).trans (decide_eq_true (by simp only [not_or, Classical.not_not] at hh; exact hh.2))
  have hl2 : ((lower (s.extract 0 7)).toList != [104, 116, 116, 112, 58, 47, 47]) = false := by rw [bne, hl]; rfl
  rw [takes_abs h0 hm h47 h hh]
  clear h0 hm h47 h hh hz
  generalize lower (s.extract 0 7) = pre at *
  rcases hst with ⟨h5, h6⟩ | h5
  all_goals
    go_enter Tryz.func30, Tryz.ntmps30
    go_wp2_with fail
    refine HS.out.mono ?_
    rintro e w1 ⟨rfl, b1⟩
    go_wp2
    go_loop [10] (fun v => ∃ i : Nat, 7 ≤ i ∧ i ≤ s.size ∧ v = .int .i64 i ∧ ∀ j, 7 ≤ j → j < i → bt s j ≠ 47 ∧ bt s j ≠ 63) (fun v => s.size - (RowKit.intOf v).toNat)
    case atStart => exact ⟨7, by omega, by omega, rfl, by omega⟩
    case round =>
      obtain ⟨i, hi7, hi, rfl, hno⟩ := hrel
      have HN := Lib.hid hno
      clear hno
      by_cases hgo : i < s.size ∧ bt s i ≠ 47 ∧ bt s i ≠ 63
      · obtain ⟨hlt, g1, g2⟩ := hgo
        have hb := @bt_eq s i hlt
        have n1 : (bt s i != 47) = true := by simpa using g1
        have n2 : (bt s i != 63) = true := by simpa using g2
        have HN2 := Lib.hid (show ∀ j, 7 ≤ j → j < i + 1 → bt s j ≠ 47 ∧ bt s j ≠ 63 from fun j h1 h2 => by
          by_cases e : j < i
          · exact HN.out j h1 e
          · obtain rfl : j = i := by omega
            exact ⟨g1, g2⟩)
        clear g1 g2
        go_wp2
        go_round
        case rel => exact ⟨i + 1, by omega, by omega, by go_num, HN2.out⟩
        case measure => simp [RowKit.intOf]; omega
      · have hk : endA s 7 = i := by
          by_cases e : i < s.size
          · exact endA_at hi7 e HN.out (by
              by_cases e1 : bt s i = 47
              · exact .inl e1
              · by_cases e2 : bt s i = 63
                · exact .inr e2
                · exact absurd ⟨e, e1, e2⟩ hgo)
          · obtain rfl : i = s.size := by omega
            exact endA_none (by omega) HN.out
        have hex : i = s.size ∨ ∃ hlt : i < s.size, ((bt s i != 47) = false ∨ ((bt s i != 47) = true ∧ (bt s i != 63) = false)) := by
          by_cases e : i < s.size
          · refine .inr ⟨e, ?_⟩
            by_cases e1 : bt s i = 47
            · exact .inl (by rw [e1]; rfl)
            · by_cases e2 : bt s i = 63
              · exact .inr ⟨by simpa using e1, by rw [e2]; rfl⟩
              · exact absurd ⟨e, e1, e2⟩ hgo
          · exact .inl (by omega)
        have hki : (i : Int) ≤ (s.size : Int) := by omega
        have hk7 : (7 : Int) ≤ (i : Int) := by omega
        have hok := @rabs_ok s i
        have hbad := @rabs_no s i
        have hez := ext_size s (a := 7) (b := i) (by omega) (by omega)
        have HA := Lib.hid (fun w => HostPort_any (s.extract 7 i) w (by omega))
        unfold authVal at HA
        have hcode := auth_code (s.extract 7 i)
        generalize authR (s.extract 7 i) = r at *
        obtain ⟨ho, p, er⟩ := r
        dsimp only at HA
        clear hgo HN hez
        by_cases hz : er = 0
        · subst hz
          have HB := Lib.hid (fun w => rrest_any 2 ho p s i w (by omega) hi)
          have HR := Lib.hid (hok hk rfl)
          rw [show (Tg.with_ 2 ho p).val = .agg #[.int .i64 2, .string ho, .int .i64 p, .string ⟨#[]⟩, .string ⟨#[]⟩, .bool false] from rfl] at HB
          generalize behindR (Tg.with_ 2 ho p) s i = rr at *
          obtain ⟨⟨f, ho2, p2, pa, qu, hq⟩, n, er⟩ := rr
          unfold tgVal Tg.val at HB
          dsimp only at HB
          clear hok hbad hcode hk
          rcases hex with rfl | ⟨hlt, hx | ⟨hx, hx2⟩⟩
          all_goals
            try have hb := @bt_eq s i hlt
            go_wp2_with fail
            refine (HA.out _).mono ?_
            rintro e w3 ⟨rfl, b3⟩
            have B3 := b1.trans (b3.mono b1.size)
            clear b3 b1
            go_wp2_with fail
            refine (HB.out _).mono ?_
            rintro e w4 ⟨rfl, b4⟩
            have B4 := B3.trans (b4.mono B3.size)
            clear b4 B3
            have b0' : Below (w.heap.size + 1) (w.alloc (.cells #[.int .i64 0, .string ⟨#[]⟩, .int .i64 0, .string ⟨#[]⟩, .string ⟨#[]⟩, .bool false] 29)) w4 := by simpa using B4
            obtain ⟨c0, f0⟩ := box6 b0' 0
            obtain ⟨c1, f1⟩ := box6 b0' 1
            obtain ⟨c2, f2⟩ := box6 b0' 2
            obtain ⟨c3, f3⟩ := box6 b0' 3
            obtain ⟨c4, f4⟩ := box6 b0' 4
            obtain ⟨c5, f5⟩ := box6 b0' 5
            have hsz := box_size b0'
            have hbw := below_box b0'
            clear B4 b0'
            go_wp2
            exact bodyPost_ret (v := tgVal (⟨f, ho2, p2, pa, qu, hq⟩, n, er)) (by simp [results, Tryz.results30, go_sem, tgVal, Tg.val, c0, c1, c2, c3, c4, c5]) rfl ⟨ret_tg HR.out.symm, by (repeat (first | (with_reducible refine Below.setCell ?_ (by simp) _) | (with_reducible refine below_drewN ?_ _) | (with_reducible refine Below.alloc ?_ (by simp) _))); exact hbw⟩
        · have hne : (er != 0) = true := by simpa using hz
          have HR := Lib.hid (hbad hk rfl hz)
          obtain rfl : er = 52 := by
            rcases hcode with h | h
            · exact absurd h hz
            · exact h
          clear hok hbad hcode hk
          rcases hex with rfl | ⟨hlt, hx | ⟨hx, hx2⟩⟩
          all_goals
            try have hb := @bt_eq s i hlt
            go_wp2_with fail
            refine (HA.out _).mono ?_
            rintro e w3 ⟨rfl, b3⟩
            have B3 := b1.trans (b3.mono b1.size)
            clear b3 b1
            have b0' : Below (w.heap.size + 1) (w.alloc (.cells #[.int .i64 0, .string ⟨#[]⟩, .int .i64 0, .string ⟨#[]⟩, .string ⟨#[]⟩, .bool false] 29)) w3 := by simpa using B3
            obtain ⟨c0, f0⟩ := box6 b0' 0
            obtain ⟨c1, f1⟩ := box6 b0' 1
            obtain ⟨c2, f2⟩ := box6 b0' 2
            obtain ⟨c3, f3⟩ := box6 b0' 3
            obtain ⟨c4, f4⟩ := box6 b0' 4
            obtain ⟨c5, f5⟩ := box6 b0' 5
            have hsz := box_size b0'
            have hbw := below_box b0'
            clear B3 b0'
            go_wp2
            exact bodyPost_ret (v := tgVal (noTg, 7, 52)) (by simp [results, Tryz.results30, go_sem, tgVal, Tg.val, noTg, c0, c1, c2, c3, c4, c5]) rfl ⟨ret_tg HR.out.symm, by (repeat (first | (with_reducible refine Below.setCell ?_ (by simp) _) | (with_reducible refine below_drewN ?_ _) | (with_reducible refine Below.alloc ?_ (by simp) _))); exact hbw⟩
theorem Parse_any (m s : ByteArray) (w : World) (hs : s.size ≤ 4194304) (hg : Glob w) :
    Calls Tryz.prog 28 #[.string m, .string s] w fun e w' => e = .returned (tgVal (parseT m s)) ∧ Below w.heap.size w w' := by
  by_cases h0 : s.size = 0
  · exact Parse_empty m s w h0
  · by_cases hm : m = connT
    · exact Parse_conn m s w hs hg h0 hm
    · by_cases h47 : bt s 0 = 47
      · exact Parse_origin m s w (by omega) h0 hm h47
      · by_cases h : s = starT ∧ m = optT
        · exact Parse_star m s w h0 hm h47 h
        · by_cases h7 : s.size < 7
          · exact Parse_short m s w h0 hm h47 h h7
          · by_cases hh : lower (s.extract 0 7) = httpT
            · exact Parse_abs m s w hs hg h0 hm h47 h (fun g => g.elim h7 (fun g => g hh))
            · exact Parse_scheme m s w hs h0 hm h47 h h7 hh
theorem Rparse_any (m s : ByteArray) (w : World) (hs : s.size ≤ 4194304) :
    Calls Tryz.prog 30 #[.string m, .string s] w fun e w' => e = .returned (tgVal (parseT m s)) ∧ Below w.heap.size w w' := by
  by_cases h0 : s.size = 0
  · exact Rparse_empty m s w h0
  · by_cases hm : m = connT
    · exact Rparse_conn m s w hs h0 hm
    · by_cases h47 : bt s 0 = 47
      · exact Rparse_origin m s w hs h0 hm h47
      · by_cases h : s = starT ∧ m = optT
        · exact Rparse_star m s w h0 hm h47 h
        · by_cases h7 : s.size < 7
          · exact Rparse_short m s w h0 hm h47 h h7
          · by_cases hh : lower (s.extract 0 7) = httpT
            · exact Rparse_abs m s w hs h0 hm h47 h (fun g => g.elim h7 (fun g => g hh))
            · exact Rparse_scheme m s w h0 hm h47 h h7 hh
end Go.Proofs.YtjlnbjlhlglneaaGreatDoor
