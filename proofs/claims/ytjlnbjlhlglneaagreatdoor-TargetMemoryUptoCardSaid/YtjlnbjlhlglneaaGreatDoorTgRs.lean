/-
  Paths and queries of targets: the walk of the reference's function.
-/
import Derived.Test.YtjlnbjlhlglneaaGreatDoorTgSc
import Derived.Test.YtjlnbjlhlglneaaGreatDoorTgBh
import Derived.Test.YtjlnbjlhlglneaaGreatDoorTgLib
namespace Go.Proofs.YtjlnbjlhlglneaaGreatDoor
open Go.RowKit Go.Shelf Go.Lib

theorem wrongE_code (s : ByteArray) (i : Nat) (o : Int) (ho : o = 53 ∨ o = 54) : (wrongE s i o != 0) = true := by
  unfold wrongE
  split
  · rfl
  · rcases ho with rfl | rfl <;> rfl
theorem rest_bad_path {t : Tg} {s : ByteArray} {i : Nat} {a q : ByteArray} {b : Bool} (hc : cutW (s.extract i s.size) 63 = (a, q, b)) (h : pathStop a < a.size) : restR t s i = (noTg, i + pathStop a, wrongE a (pathStop a) 53) := by
  unfold restR
  rw [hc]
  exact if_pos h
theorem rest_bad_query {t : Tg} {s : ByteArray} {i : Nat} {a q : ByteArray} {b : Bool} (hc : cutW (s.extract i s.size) 63 = (a, q, b)) (h : ¬ pathStop a < a.size) (h2 : queryStop q < q.size) : restR t s i = (noTg, i + a.size + 1 + queryStop q, wrongE q (queryStop q) 54) := by
  unfold restR
  rw [hc]
  exact (if_neg h).trans (if_pos h2)
theorem rest_ok {t : Tg} {s : ByteArray} {i : Nat} {a q : ByteArray} {b : Bool} (hc : cutW (s.extract i s.size) 63 = (a, q, b)) (h : ¬ pathStop a < a.size) (h2 : ¬ queryStop q < q.size) : restR t s i = (t.laid a q b, 0, 0) := by
  unfold restR
  rw [hc]
  exact (if_neg h).trans (if_neg h2)
theorem scan_yes {P : Int → Bool} {s : ByteArray} {o : Int} (h : stopF P s 0 < s.size) : scanR P s o = (stopF P s 0, wrongE s (stopF P s 0) o) := if_pos h
theorem scan_no {P : Int → Bool} {s : ByteArray} {o : Int} (h : ¬ stopF P s 0 < s.size) : scanR P s o = (0, 0) := if_neg h
set_option maxRecDepth 100000 in
set_option maxHeartbeats 4000000 in
theorem rrest_any (f : Int) (h : ByteArray) (p : Int) (s : ByteArray) (i : Nat) (w : World) (hs : s.size ≤ 1099511627776) (hi : i ≤ s.size) :
    Calls Tryz.prog 64 #[.string s, .int .i64 i, (Tg.with_ f h p).val] w fun e w' => e = .returned (tgVal (behindR (Tg.with_ f h p) s i)) ∧ Below w.heap.size w w' := by
  have hz := ext_size s hi (Nat.le_refl _)
  have HC := Lib.hid (fun w => rcut_any (s.extract i s.size) 63 w (by omega))
  unfold cutVal at HC
  have hsz := cutW_size (s.extract i s.size) 63
  rw [← rest_eq _ s hi]
  have hb1 := @rest_bad_path (Tg.with_ f h p) s i
  have hb2 := @rest_bad_query (Tg.with_ f h p) s i
  have hb3 := @rest_ok (Tg.with_ f h p) s i
  generalize hcut : cutW (s.extract i s.size) 63 = c at *
  obtain ⟨a, q, b⟩ := c
  simp only at HC hsz
  obtain ⟨z1, z2, z3⟩ := hsz
  rw [hz] at z1 z2 z3
  clear hcut hz
  have HSP := Lib.hid (fun w => scan_path a w (by omega))
  have HSQ := Lib.hid (fun w => scan_query q w (by omega))
  rw [show (Tg.with_ f h p).val = .agg #[.int .i64 f, .string h, .int .i64 p, .string ⟨#[]⟩, .string ⟨#[]⟩, .bool false] from rfl]
  by_cases h1 : pathStop a < a.size
  · have HB := Lib.hid (hb1 rfl h1)
    have hne := wrongE_code a (pathStop a) 53 (.inl rfl)
    have hy := scan_yes (P := pathSign) (o := 53) h1
    unfold scanVal at HSP
    rw [hy] at HSP
    change Hid (∀ w, Calls _ _ _ w fun e w' => e = .returned (.tuple #[.int .i64 ((pathStop a : Nat) : Int), .int .i64 (wrongE a (pathStop a) 53)]) ∧ w = w') at HSP
    clear hb1 hb2 hb3 HSQ hy
    generalize pathStop a = n at *
    generalize wrongE a n 53 = o at *
    go_enter Tryz.func64, Tryz.ntmps64
    go_wp2_with fail
    refine (HC.out _).mono ?_
    rintro e w1 ⟨rfl, q1, rfl⟩
    go_wp2_with fail
    refine (HSP.out _).mono ?_
    rintro e w1 ⟨rfl, rfl⟩
    go_wp2
    exact bodyPost_ret (v := tgVal (noTg, i + n, o)) (by simp [results, Tryz.results64, go_sem, tgVal, Tg.val, noTg]) rfl ⟨ret_tg HB.out.symm, by (repeat (first | (with_reducible refine Below.setCell ?_ (by simp) _) | (with_reducible refine below_drewN ?_ _) | (with_reducible refine Below.alloc ?_ (by simp) _))); exact Below.refl _ _⟩
  · have hno := scan_no (P := pathSign) (o := 53) h1
    unfold scanVal at HSP
    rw [hno] at HSP
    change Hid (∀ w, Calls _ _ _ w fun e w' => e = .returned (.tuple #[.int .i64 0, .int .i64 0]) ∧ w = w') at HSP
    by_cases h2 : queryStop q < q.size
    · have HB := Lib.hid (hb2 rfl h1 h2)
      have hne := wrongE_code q (queryStop q) 54 (.inr rfl)
      have hy := scan_yes (P := querySign) (o := 54) h2
      unfold scanVal at HSQ
      rw [hy] at HSQ
      change Hid (∀ w, Calls _ _ _ w fun e w' => e = .returned (.tuple #[.int .i64 ((queryStop q : Nat) : Int), .int .i64 (wrongE q (queryStop q) 54)]) ∧ w = w') at HSQ
      clear hb1 hb2 hb3 hy hno h1
      generalize queryStop q = n at *
      generalize wrongE q n 54 = o at *
      go_enter Tryz.func64, Tryz.ntmps64
      go_wp2_with fail
      refine (HC.out _).mono ?_
      rintro e w1 ⟨rfl, q1, rfl⟩
      go_wp2_with fail
      refine (HSP.out _).mono ?_
      rintro e w1 ⟨rfl, rfl⟩
      go_wp2_with fail
      refine (HSQ.out _).mono ?_
      rintro e w1 ⟨rfl, rfl⟩
      go_wp2
      exact bodyPost_ret (v := tgVal (noTg, i + a.size + 1 + n, o)) (by simp [results, Tryz.results64, go_sem, tgVal, Tg.val, noTg]) rfl ⟨ret_tg HB.out.symm, by (repeat (first | (with_reducible refine Below.setCell ?_ (by simp) _) | (with_reducible refine below_drewN ?_ _) | (with_reducible refine Below.alloc ?_ (by simp) _))); exact Below.refl _ _⟩
    · have HB := Lib.hid (hb3 rfl h1 h2)
      have hno2 := scan_no (P := querySign) (o := 54) h2
      unfold scanVal at HSQ
      rw [hno2] at HSQ
      change Hid (∀ w, Calls _ _ _ w fun e w' => e = .returned (.tuple #[.int .i64 0, .int .i64 0]) ∧ w = w') at HSQ
      clear hb1 hb2 hb3 hno hno2 h1 h2
      by_cases ha : a.size = 0
      · have he : a.toList.isEmpty = true := by rw [empty_eq]; exact decide_eq_true ha
        have HB2 := Lib.hid (HB.out.trans (by rw [laid_zero ha]))
        clear ha HB
        go_enter Tryz.func64, Tryz.ntmps64
        go_wp2_with fail
        refine (HC.out _).mono ?_
        rintro e w1 ⟨rfl, q1, rfl⟩
        go_wp2_with fail
        refine (HSP.out _).mono ?_
        rintro e w1 ⟨rfl, rfl⟩
        go_wp2_with fail
        refine (HSQ.out _).mono ?_
        rintro e w1 ⟨rfl, rfl⟩
        go_wp2
        exact bodyPost_ret (v := tgVal (⟨f, h, p, ⟨#[47]⟩, q, b⟩, 0, 0)) (by simp [results, Tryz.results64, go_sem, tgVal, Tg.val]) rfl ⟨ret_tg HB2.out.symm, by (repeat (first | (with_reducible refine Below.setCell ?_ (by simp) _) | (with_reducible refine below_drewN ?_ _) | (with_reducible refine Below.alloc ?_ (by simp) _))); exact Below.refl _ _⟩
      · have he : a.toList.isEmpty = false := by rw [empty_eq]; exact decide_eq_false ha
        have HB2 := Lib.hid (HB.out.trans (by rw [laid_some ha]))
        clear ha HB
        go_enter Tryz.func64, Tryz.ntmps64
        go_wp2_with fail
        refine (HC.out _).mono ?_
        rintro e w1 ⟨rfl, q1, rfl⟩
        go_wp2_with fail
        refine (HSP.out _).mono ?_
        rintro e w1 ⟨rfl, rfl⟩
        go_wp2_with fail
        refine (HSQ.out _).mono ?_
        rintro e w1 ⟨rfl, rfl⟩
        go_wp2
        exact bodyPost_ret (v := tgVal (⟨f, h, p, a, q, b⟩, 0, 0)) (by simp [results, Tryz.results64, go_sem, tgVal, Tg.val]) rfl ⟨ret_tg HB2.out.symm, by (repeat (first | (with_reducible refine Below.setCell ?_ (by simp) _) | (with_reducible refine below_drewN ?_ _) | (with_reducible refine Below.alloc ?_ (by simp) _))); exact Below.refl _ _⟩
end Go.Proofs.YtjlnbjlhlglneaaGreatDoor
