/-
  The walk of FieldJoins.
-/
import Derived.Test.YtamagbdkcfmfmaaDoorJoins
import Derived.Test.YtamagbdkcfmfmaaDoorToks
import Derived.Test.YtamagbdkcfmfmaaDoorLawTurns
namespace Go.Proofs.YtamagbdkcfmfmaaDoor
open Go.RowKit Go.Shelf Go.Lib

set_option maxRecDepth 20000 in
set_option maxHeartbeats 4000000 in
theorem FieldJoins_walk (A : Option Addr) (c : Nat) (l : List Fl) (name : ByteArray) (w : World) (hr : Row w A (flat l)) (hl : l.length ≤ 4398046511102) (_hw : Wide l) (hn : name.size ≤ maxLen) (hk : bulkF l + name.size ≤ 1048576) (hg : Glob w) :
    Calls Tryd.prog 9 #[.slice A l.length c, .string name] w fun e w' => e = .returned (.bool true) ∧ Below w.heap.size w w' := by
  have hkb : bulkF l ≤ 1048576 := by omega
  have hba := bulk_all l name
  have HA := Lib.hid (fun A c w hr => All_any A c l name w hr (by omega) (bulk_wide hkb) hn)
  have HJ := Lib.hid (fun A c w hr => Joined_any A c l name w hr hkb hn)
  have HL := Lib.hid (fun A c w hr => fList_any A c l name w hr hkb hn)
  generalize allV l name = vs at *
  rcases listR_err vs with ⟨he, hsome⟩ | ⟨he, _⟩
  · have hlb := (listR_bound vs).2.2
    generalize listR vs = r at *
    obtain ⟨x, ec⟩ := r
    obtain rfl : ec = 0 := he
    have hxl : x.length ≤ 1048576 := by simp only at hlb; omega
    have HS := Lib.hid (show elemsAll vs = some x from hsome)
    clear hsome hlb
    by_cases hv : vs = []
    · subst hv
      have hx : x = [] := by have h := HS.out; simp only [elemsAll, Option.some.injEq] at h; exact h.symm
      subst hx
      have hp : decide (0 < ([] : List ByteArray).length) = false := rfl
      rw [hp] at HJ
      clear hp
      go_enter Tryd.func9, Tryd.ntmps9
      go_wp2_with fail
      refine (awake_any w hg).mono ?_
      rintro e w1 ⟨rfl, hb⟩
      have r_1 := hr.below hb
      have hbw1 := hb
      clear hb 
      go_wp2_with fail
      refine (wide_any A c l w1 r_1 (by omega)).mono ?_
      rintro e w2 ⟨B1, b1, rfl, hown, hb⟩
      have r_2 := r_1.below hb
      have in_2 := own_row hown
      have hbw2 := hbw1.trans (hb.mono hbw1.size)
      clear hb r_1 hbw1 hown
      go_wp2_with fail
      refine (HL.out B1 b1 w2 in_2).mono ?_
      rintro e w3 ⟨X, cx, rfl, hown, hb⟩
      have r_3 := r_2.below hb
      have x_3 := own_row hown
      have hbw3 := hbw2.trans (hb.mono hbw2.size)
      clear hb in_2 r_2 hbw2 hown
      go_wp2_with fail
      refine (wide_any A c l w3 r_3 (by omega)).mono ?_
      rintro e w4 ⟨B2, b2, rfl, hown, hb⟩
      have r_4 := r_3.below hb
      have in_4 := own_row hown
      have hbw4 := hbw3.trans (hb.mono hbw3.size)
      clear hb r_3 hbw3 hown
      go_wp2_with fail
      refine (HJ.out B2 b2 w4 in_4).mono ?_
      rintro e w5 ⟨rfl, hb⟩
      have r_5 := r_4.below hb
      have hbw5 := hbw4.trans (hb.mono hbw4.size)
      clear hb in_4 r_4 hbw4
      go_wp2_with fail
      refine (wide_any A c l w5 r_5 (by omega)).mono ?_
      rintro e w6 ⟨B3, b3, rfl, hown, hb⟩
      have r_6 := r_5.below hb
      have in_6 := own_row hown
      have hbw6 := hbw5.trans (hb.mono hbw5.size)
      clear hb r_5 hbw5 hown
      go_wp2_with fail
      refine (HA.out B3 b3 w6 in_6).mono ?_
      rintro e w7 ⟨X2, cx2, rfl, hown, hb⟩
      have r_7 := r_6.below hb
      have hbw7 := hbw6.trans (hb.mono hbw6.size)
      clear hb in_6 r_6 hbw6 hown
      go_wp2
      go_ret
      exact ⟨rfl, hbw7⟩
    · have hp : decide (0 < vs.length) = true := decide_eq_true (by
        rcases Nat.eq_zero_or_pos vs.length with h | h
        · exact absurd (List.eq_nil_of_length_eq_zero h) hv
        · exact h)
      rw [hp] at HJ
      have hjs := joinR_size hv
      have hvp : 1 ≤ vs.length := of_decide_eq_true hp
      have HE := Lib.hid (elems_join hv HS.out)
      have hjk : bulkF [(name, joinR vs)] ≤ 1048576 := by
        have : bulkF [(name, joinR vs)] = name.size + (joinR vs).size + 3 := by simp [bulkF]
        omega
      have HL2 := Lib.hid (fun A c w hr => fList_any A c [(name, joinR vs)] name w hr hjk hn)
      rw [allV_one] at HL2
      have HR2 := Lib.hid (show listR [joinR vs] = (x, 0) by
        unfold listR elemsAll
        rw [HE.out]
        simp [elemsAll])
      rw [HR2.out] at HL2
      clear hp hjs HE HR2 hjk hv
      generalize joinR vs = jv at *
      go_enter Tryd.func9, Tryd.ntmps9
      go_wp2_with fail
      refine (awake_any w hg).mono ?_
      rintro e w1 ⟨rfl, hb⟩
      have r_1 := hr.below hb
      have hbw1 := hb
      clear hb 
      go_wp2_with fail
      refine (wide_any A c l w1 r_1 (by omega)).mono ?_
      rintro e w2 ⟨B1, b1, rfl, hown, hb⟩
      have r_2 := r_1.below hb
      have in_2 := own_row hown
      have hbw2 := hbw1.trans (hb.mono hbw1.size)
      clear hb r_1 hbw1 hown
      go_wp2_with fail
      refine (HL.out B1 b1 w2 in_2).mono ?_
      rintro e w3 ⟨X, cx, rfl, hown, hb⟩
      have r_3 := r_2.below hb
      have x_3 := own_row hown
      have hbw3 := hbw2.trans (hb.mono hbw2.size)
      clear hb in_2 r_2 hbw2 hown
      go_wp2_with fail
      refine (wide_any A c l w3 r_3 (by omega)).mono ?_
      rintro e w4 ⟨B2, b2, rfl, hown, hb⟩
      have r_4 := r_3.below hb
      have x_4 := x_3.below hb
      have in_4 := own_row hown
      have hbw4 := hbw3.trans (hb.mono hbw3.size)
      clear hb r_3 x_3 hbw3 hown
      go_wp2_with fail
      refine (HJ.out B2 b2 w4 in_4).mono ?_
      rintro e w5 ⟨rfl, hb⟩
      have r_5 := r_4.below hb
      have x_5 := x_4.below hb
      have hbw5 := hbw4.trans (hb.mono hbw4.size)
      clear hb in_4 r_4 x_4 hbw4
      have hrn := row_new2 w5 name jv 24 rfl
      have HX := Lib.hid (HL2.out _ 1 _ hrn)
      have hxa := x_5.alloc (.cells #[.string name, .string jv] 24)
      have hbwa := hbw5.alloc hbw5.size (.cells #[.string name, .string jv] 24)
      clear hrn x_5 hbw5
      go_wp2_with fail
      refine (HX.out).mono ?_
      rintro e w6 ⟨Y, cy, rfl, hown, hb⟩
      have x_6 := hxa.below hb
      have y_6 := own_row hown
      have hbw6 := hbwa.trans (hb.mono hbwa.size)
      clear hb r_5 hxa hbwa hown
      go_wp2_with fail
      refine (textss_any (A := X) (B := Y) cx cy x w6 x_6 y_6 (by omega)).mono ?_
      rintro e w7 ⟨rfl, hb⟩
      have hbw7 := hbw6.trans (hb.mono hbw6.size)
      clear hb x_6 y_6 hbw6
      go_wp2
      go_ret
      exact ⟨rfl, hbw7⟩
  · rw [he] at HL
    clear he
    go_enter Tryd.func9, Tryd.ntmps9
    go_wp2_with fail
    refine (awake_any w hg).mono ?_
    rintro e w1 ⟨rfl, hb⟩
    have r_1 := hr.below hb
    have hbw1 := hb
    clear hb 
    go_wp2_with fail
    refine (wide_any A c l w1 r_1 (by omega)).mono ?_
    rintro e w2 ⟨B1, b1, rfl, hown, hb⟩
    have r_2 := r_1.below hb
    have in_2 := own_row hown
    have hbw2 := hbw1.trans (hb.mono hbw1.size)
    clear hb r_1 hbw1 hown
    go_wp2_with fail
    refine (HL.out B1 b1 w2 in_2).mono ?_
    rintro e w3 ⟨X, cx, rfl, hown, hb⟩
    have r_3 := r_2.below hb
    have hbw3 := hbw2.trans (hb.mono hbw2.size)
    clear hb in_2 r_2 hbw2 hown
    go_wp2
    go_ret
    exact ⟨rfl, hbw3⟩
end Go.Proofs.YtamagbdkcfmfmaaDoor
