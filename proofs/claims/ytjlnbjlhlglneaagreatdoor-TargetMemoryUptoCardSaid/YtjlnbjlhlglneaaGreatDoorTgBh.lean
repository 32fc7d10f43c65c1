/-
  Paths and queries of targets: the walk of the program's function.
-/
import Derived.Test.YtjlnbjlhlglneaaGreatDoorTgDr
import Derived.Test.YtjlnbjlhlglneaaGreatDoorTgB
namespace Go.Proofs.YtjlnbjlhlglneaaGreatDoor
open Go.RowKit Go.Shelf Go.Lib

def Tg.val (t : Tg) : Value := .agg #[.int .i64 t.form, .string t.host, .int .i64 t.port, .string t.path, .string t.query, .bool t.hasq]
def tgVal (r : Tg × Nat × Int) : Value := .tuple #[r.1.val, .int .i64 (r.2.1 : Int), .int .i64 r.2.2]
theorem wrong_any (s : ByteArray) (i : Nat) (o : Int) (w : World) (hi : i < s.size) :
    Calls Tryz.prog 33 #[.string s, .int .i64 i, .int .i64 o] w fun e w' => e = .returned (.int .i64 (wrongE s i o)) ∧ w = w' := by
  have hb := @bt_eq s i hi
  have HW := Lib.hid (show wrongE s i o = if bt s i = 37 then 51 else o from rfl)
  by_cases h : bt s i = 37
  · have he : (bt s i == 37) = true := by rw [h]; rfl
    rw [if_pos h] at HW
    clear h
    go_enter Tryz.func33, Tryz.ntmps33
    go_wp2
    go_ret
    exact ⟨ret_int HW.out.symm, rfl⟩
  · have he : (bt s i == 37) = false := by simpa using h
    rw [if_neg h] at HW
    clear h
    go_enter Tryz.func33, Tryz.ntmps33
    go_wp2
    go_ret
    exact ⟨ret_int HW.out.symm, rfl⟩
section
variable {t : Tg} {s : ByteArray} {i : Nat}
theorem behindR_end (h : endP s i = s.size) : behindR t s i = (t.laid (s.extract i (endP s i)) ⟨#[]⟩ false, 0, 0) := by unfold behindR; rw [if_pos h]
theorem behindR_bad (h : ¬ endP s i = s.size) (hb : bt s (endP s i) ≠ 63) : behindR t s i = (noTg, endP s i, wrongE s (endP s i) 53) := by unfold behindR; rw [if_neg h, if_neg hb]
theorem behindR_query (h : ¬ endP s i = s.size) (hb : bt s (endP s i) = 63) (hq : endQ s (endP s i + 1) < s.size) : behindR t s i = (noTg, endQ s (endP s i + 1), wrongE s (endQ s (endP s i + 1)) 54) := by unfold behindR; rw [if_neg h, if_pos hb, if_pos hq]
theorem behindR_ok (h : ¬ endP s i = s.size) (hb : bt s (endP s i) = 63) (hq : ¬ endQ s (endP s i + 1) < s.size) : behindR t s i = (t.laid (s.extract i (endP s i)) (s.extract (endP s i + 1) s.size) true, 0, 0) := by unfold behindR; rw [if_neg h, if_pos hb, if_neg hq]
end
theorem ret_tg {a b : Tg × Nat × Int} (h : a = b) : Ending.returned (tgVal a) = .returned (tgVal b) := by rw [h]
def Tg.with_ (f : Int) (h : ByteArray) (p : Int) : Tg := ⟨f, h, p, ⟨#[]⟩, ⟨#[]⟩, false⟩
theorem laid_zero {f p : Int} {h x q : ByteArray} {b : Bool} (hx : x.size = 0) : (Tg.with_ f h p).laid x q b = ⟨f, h, p, ⟨#[47]⟩, q, b⟩ := by unfold Tg.laid Tg.with_; rw [if_pos hx]; rfl
theorem laid_some {f p : Int} {h x q : ByteArray} {b : Bool} (hx : ¬ x.size = 0) : (Tg.with_ f h p).laid x q b = ⟨f, h, p, x, q, b⟩ := by unfold Tg.laid Tg.with_; rw [if_neg hx]
set_option maxRecDepth 100000 in
set_option maxHeartbeats 4000000 in
theorem behind_any (f : Int) (h : ByteArray) (p : Int) (s : ByteArray) (i : Nat) (w : World) (hs : s.size ≤ 1099511627776) (hi : i ≤ s.size) :
    Calls Tryz.prog 60 #[(Tg.with_ f h p).val, .string s, .int .i64 i] w fun e w' => e = .returned (tgVal (behindR (Tg.with_ f h p) s i)) ∧ Below w.heap.size w w' := by
  have hz := ext_size s hi (Nat.le_refl _)
  have HP := Lib.hid (fun w => signs_path (s.extract i s.size) w (by omega))
  have hE := endP_range hi
  have e0 : endP s i = i + pathStop (s.extract i s.size) := rfl
  have hbq := @behindR_query (Tg.with_ f h p) s i
  have hbo := @behindR_ok (Tg.with_ f h p) s i
  have hbb := @behindR_bad (Tg.with_ f h p) s i
  have hbe := @behindR_end (Tg.with_ f h p) s i
  rw [e0] at hE hbq hbo hbb hbe
  have HQ := Lib.hid hbq
  have HO := Lib.hid hbo
  have HBB := Lib.hid hbb
  have HEE := Lib.hid hbe
  clear hbq hbo hbb hbe e0
  generalize pathStop (s.extract i s.size) = n at *
  have i1 : ((i : Int) + (n : Int)).toNat = i + n := by omega
  have l1 : (i : Int) + (n : Int) ≤ (s.size : Int) := by omega
  have l2 : (i : Int) ≤ (i : Int) + (n : Int) := by omega
  have hpz := ext_size s (a := i) (b := i + n) (by omega) (by omega)
  have hcase : ∃ pv : ByteArray, (∀ (q : ByteArray) (b : Bool), (Tg.with_ f h p).laid (s.extract i (i + n)) q b = ⟨f, h, p, pv, q, b⟩) ∧ ((pv = ⟨#[47]⟩ ∧ (s.extract i (i + n)).toList.isEmpty = true) ∨ (pv = s.extract i (i + n) ∧ (s.extract i (i + n)).toList.isEmpty = false)) := by
    by_cases hn0 : n = 0
    · exact ⟨_, fun q b => laid_zero (by omega), .inl ⟨rfl, by rw [empty_eq]; exact decide_eq_true (by omega)⟩⟩
    · exact ⟨_, fun q b => laid_some (by omega), .inr ⟨rfl, by rw [empty_eq]; exact decide_eq_false (by omega)⟩⟩
  clear hpz
  obtain ⟨pv, hpv, hcs⟩ := hcase
  have HPV := Lib.hid hpv
  clear hpv
  rw [show (Tg.with_ f h p).val = .agg #[.int .i64 f, .string h, .int .i64 p, .string ⟨#[]⟩, .string ⟨#[]⟩, .bool false] from rfl]
  rcases hcs with ⟨rfl, he⟩ | ⟨rfl, he⟩
  all_goals
    by_cases hend : i + n = s.size
    · have hee : ((i : Int) + (n : Int) == (s.size : Int)) = true := beq_iff_eq.2 (by omega)
      have HB := Lib.hid ((HEE.out hend).trans (by rw [HPV.out]))
      clear hend hz
      go_enter Tryz.func60, Tryz.ntmps60
      go_wp2_with fail
      refine (HP.out _).mono ?_
      rintro e w1 ⟨rfl, q, rfl⟩
      go_wp2
      exact bodyPost_ret (v := tgVal (⟨f, h, p, _, ⟨#[]⟩, false⟩, 0, 0)) (by simp [results, Tryz.results60, go_sem, tgVal, Tg.val]) rfl ⟨ret_tg HB.out.symm, by (repeat (first | (with_reducible refine Below.setCell ?_ (by simp) _) | (with_reducible refine below_drewN ?_ _) | (with_reducible refine Below.alloc ?_ (by simp) _))); exact Below.refl _ _⟩
    · have hee : ((i : Int) + (n : Int) == (s.size : Int)) = false := beq_eq_false_iff_ne.2 (by omega)
      have hlt : i + n < s.size := by omega
      have l3 : (i : Int) + (n : Int) < (s.size : Int) := by omega
      have hb := @bt_eq s (i + n) hlt
      by_cases h63 : bt s (i + n) = 63
      · have hne : (bt s (i + n) != 63) = false := by rw [h63]; rfl
        have hz2 := ext_size s (a := i + n + 1) (b := s.size) (by omega) (Nat.le_refl _)
        have HQ2 := Lib.hid (fun w => signs_query (s.extract (i + n + 1) s.size) w (by omega))
        have hE2 := endQ_range (s := s) (i := i + n + 1) (by omega)
        have e2 : endQ s (i + n + 1) = i + n + 1 + queryStop (s.extract (i + n + 1) s.size) := rfl
        have hqq := HQ.out hend h63
        have hoo := HO.out hend h63
        rw [e2] at hE2 hqq hoo
        clear e2
        generalize queryStop (s.extract (i + n + 1) s.size) = m at *
        have i2 : ((i : Int) + (n : Int) + 1).toNat = i + n + 1 := by omega
        have i3 : ((i : Int) + (n : Int) + 1 + (m : Int)).toNat = i + n + 1 + m := by omega
        have l4 : (i : Int) + (n : Int) + 1 ≤ (s.size : Int) := by omega
        have l5 : (i : Int) + (n : Int) + 1 + (m : Int) ≤ (s.size : Int) := by omega
        have l6 : (i : Int) + (n : Int) + 1 ≤ (i : Int) + (n : Int) + 1 + (m : Int) := by omega
        by_cases hlt2 : i + n + 1 + m < s.size
        · have hd : decide ((i : Int) + (n : Int) + 1 + (m : Int) < (s.size : Int)) = true := decide_eq_true (by omega)
          have HB := Lib.hid (hqq hlt2)
          have HW := Lib.hid (fun w => wrong_any s (i + n + 1 + m) 54 w hlt2)
          rw [Int.natCast_add, Int.natCast_add, Int.natCast_add] at HW
          clear hend hz h63 hqq hoo hz2
          go_enter Tryz.func60, Tryz.ntmps60
          go_wp2_with fail
          refine (HP.out _).mono ?_
          rintro e w1 ⟨rfl, q, rfl⟩
          go_wp2_with fail
          refine (HQ2.out _).mono ?_
          rintro e w1 ⟨rfl, q2, rfl⟩
          go_wp2_with fail
          refine (HW.out _).mono ?_
          rintro e w1 ⟨rfl, rfl⟩
          go_wp2
          exact bodyPost_ret (v := tgVal (noTg, i + n + 1 + m, wrongE s (i + n + 1 + m) 54)) (by simp [results, Tryz.results60, go_sem, tgVal, Tg.val, noTg]) rfl ⟨ret_tg HB.out.symm, by (repeat (first | (with_reducible refine Below.setCell ?_ (by simp) _) | (with_reducible refine below_drewN ?_ _) | (with_reducible refine Below.alloc ?_ (by simp) _))); exact Below.refl _ _⟩
        · have hd : decide ((i : Int) + (n : Int) + 1 + (m : Int) < (s.size : Int)) = false := decide_eq_false (by omega)
          have HB := Lib.hid ((hoo hlt2).trans (by rw [HPV.out, show s.extract (i + n + 1) s.size = s.extract (i + n + 1) (i + n + 1 + m) by rw [show i + n + 1 + m = s.size by omega]]))
          clear hend hz h63 hqq hoo hz2
          go_enter Tryz.func60, Tryz.ntmps60
          go_wp2_with fail
          refine (HP.out _).mono ?_
          rintro e w1 ⟨rfl, q, rfl⟩
          go_wp2_with fail
          refine (HQ2.out _).mono ?_
          rintro e w1 ⟨rfl, q2, rfl⟩
          go_wp2
          exact bodyPost_ret (v := tgVal (⟨f, h, p, _, s.extract (i + n + 1) (i + n + 1 + m), true⟩, 0, 0)) (by simp [results, Tryz.results60, go_sem, tgVal, Tg.val]) rfl ⟨ret_tg HB.out.symm, by (repeat (first | (with_reducible refine Below.setCell ?_ (by simp) _) | (with_reducible refine below_drewN ?_ _) | (with_reducible refine Below.alloc ?_ (by simp) _))); exact Below.refl _ _⟩
      · have hne : (bt s (i + n) != 63) = true := by simpa using h63
        have HB := Lib.hid (HBB.out hend h63)
        have HW := Lib.hid (fun w => wrong_any s (i + n) 53 w hlt)
        rw [Int.natCast_add] at HW
        clear hend hz h63
        go_enter Tryz.func60, Tryz.ntmps60
        go_wp2_with fail
        refine (HP.out _).mono ?_
        rintro e w1 ⟨rfl, q, rfl⟩
        go_wp2_with fail
        refine (HW.out _).mono ?_
        rintro e w1 ⟨rfl, rfl⟩
        go_wp2
        exact bodyPost_ret (v := tgVal (noTg, i + n, wrongE s (i + n) 53)) (by simp [results, Tryz.results60, go_sem, tgVal, Tg.val, noTg]) rfl ⟨ret_tg HB.out.symm, by (repeat (first | (with_reducible refine Below.setCell ?_ (by simp) _) | (with_reducible refine below_drewN ?_ _) | (with_reducible refine Below.alloc ?_ (by simp) _))); exact Below.refl _ _⟩

end Go.Proofs.YtjlnbjlhlglneaaGreatDoor
