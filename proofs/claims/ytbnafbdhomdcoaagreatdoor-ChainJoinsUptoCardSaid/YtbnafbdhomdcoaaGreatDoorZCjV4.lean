/-
 CjV4, without what this claim does not reach.
-/
import Derived.Test.YtbnafbdhomdcoaaGreatDoorZCjV3
import Derived.Test.YtbnafbdhomdcoaaGreatDoorZm13
import Derived.Test.YtbnafbdhomdcoaaGreatDoorZCjDd
import Derived.Deep.RegionHeld3
import Derived.Deep.QuietTactic
import Derived.BigQuiet
namespace Go.Proofs.YtbnafbdhomdcoaaGreatDoor
open Go.RowKit Go.Shelf Go.Lib
theorem below_dr2 {B : Nat} {w w' : World} (h : Below B w w') : Below B w w'.drew := ⟨h.os, h.tape, h.output, h.size, h.block⟩
theorem below_drN2 {B : Nat} {w w' : World} (h : Below B w w') (n : Nat) : Below B w (w'.drewN n) := ⟨h.os, h.tape, h.output, h.size, h.block⟩
theorem below_stp {n : Nat} {w0 w w' : World} (h : Below w0.heap.size w0 w) (h2 : Below n w w') (hn : w.heap.size ≤ n) : Below w0.heap.size w0 w' := h.trans (h2.mono (Nat.le_trans h.size hn))
theorem origin_ways (n : Nat) (s : ByteArray) : (s.size = 0 ∧ originOk n s = false) ∨ (¬ s.size = 0 ∧ isFld s = false ∧ originOk n s = false) ∨ (¬ s.size = 0 ∧ isFld s = true ∧ allB (fun c => !sepB c) s = false ∧ originOk n s = false) ∨
  (¬ s.size = 0 ∧ isFld s = true ∧ allB (fun c => !sepB c) s = true ∧ ¬ s = starV ∧ originOk n s = true) ∨ (¬ s.size = 0 ∧ isFld s = true ∧ allB (fun c => !sepB c) s = true ∧ s = starV ∧ 1 < n ∧ originOk n s = false) ∨ (¬ s.size = 0 ∧ isFld s = true ∧ allB (fun c => !sepB c) s = true ∧ s = starV ∧ ¬ 1 < n ∧ originOk n s = true) := by
 unfold originOk
 by_cases h1 : s.size = 0
 ·exact .inl ⟨h1, by rw [decide_eq_true h1]; rfl⟩
 ·rw [decide_eq_false h1]
  cases h2 : isFld s
  ·exact .inr (.inl ⟨h1, rfl, rfl⟩)
  ·cases h3 : allB (fun c => !sepB c) s
   ·exact .inr (.inr (.inl ⟨h1, rfl, rfl, rfl⟩))
   ·by_cases h4 : s = starV
    ·by_cases h5 : 1 < n
     ·exact .inr (.inr (.inr (.inr (.inl ⟨h1, rfl, rfl, h4, h5, by rw [decide_eq_true h4, decide_eq_true h5]; rfl⟩))))
     ·exact .inr (.inr (.inr (.inr (.inr ⟨h1, rfl, rfl, h4, h5, by rw [decide_eq_true h4, decide_eq_false h5]; rfl⟩))))
    ·exact .inr (.inr (.inr (.inl ⟨h1, rfl, rfl, h4, by rw [decide_eq_false h4]; rfl⟩)))
set_option maxRecDepth 20000 in
set_option maxHeartbeats 4000000 in
theorem rightOrigin_any (m : Mid) (A : Option Addr) (c : Nat) (w : World) (hr : Row w A (m.list.map .string)) (hm : FitM m) (hg : Glob w) :
  Calls Tryz.prog 70 #[midV m A c] w fun e w' => e = .returned (.bool (m.list.all (originOk m.list.length) && (decide (0 < m.list.length) && (decide (0 ≤ m.n) && tokensOk m.value)))) ∧ Below w.heap.size w w' := by
 have hl : m.list.length ≤ 1048576 := (list_sizes hm.list).2.1
 have HR := Lib.hid (fun (W : World) (h : Below w.heap.size w W) => hr.below h)
 have HFD := Lib.hid (fun (s : ByteArray) (hs : s ∈ m.list) (W : World) => IsField_any s W (by have := list_size hm.list hs; unfold maxLen; omega))
 have HCA := Lib.hid (fun (s : ByteArray) (hs : s ∈ m.list) (W : World) => ContainsAny_any s W (Nat.le_trans (list_size hm.list hs) (by decide)))
 have HTK := Lib.hid (fun (W : World) (h : Below w.heap.size w W) => oTokens_any m.value W hm.value (hg.beyond h))
 have HTO := Lib.hid (show tokensOk m.value = (match toksO m.value with | none => false | some l => decide (joinR l = m.value)) from rfl)
 have HVZ := Lib.hid hm.value
 have HEZ := Lib.hid (fun l (h : toksO m.value = some l) => (show (l.map (·.size)).sum ≤ m.value.size ∧ l.length ≤ m.value.size by
  unfold toksO at h
  cases he : elems m.value with
  | none => rw [he] at h; cases h
  | some k =>
   rw [he] at h
   dsimp only at h
   split at h
   ·cases h
    obtain ⟨h1, _, h3⟩ := elems_weight he
    exact ⟨h1, h3⟩
   ·cases h))
 clear hr hm hg
 unfold midV
 go_enter Tryz.func70, Tryz.ntmps70
 go_wp2
 go_loopw [10] (fun i wr => ∃ k : Nat, k ≤ m.list.length ∧ i = .int .i64 k ∧ Hid ((m.list.drop k).all (originOk m.list.length) = m.list.all (originOk m.list.length)) ∧ Below (w.heap.size + 1) (w.alloc (.cells #[.int .i64 m.kind, .string m.name, .string m.value, .slice A m.list.length c, .int .i64 m.n] 24)) wr) (fun i _ => m.list.length - (RowKit.intOf i).toNat)
 case atStart => exact ⟨0, Nat.zero_le _, rfl, Lib.hid rfl, mid_box w _⟩
 case round =>
  obtain ⟨k, hk, rfl, HD, hbx⟩ := hrel
  have hbw := below_box hbx
  by_cases hlt : k < m.list.length
  ·obtain ⟨s, hs⟩ := some_of_lt hlt
   obtain ⟨b, off, rfl, hb, hcell⟩ := (HR.out wr hbw).str hs
   have hf := all_at (P := originOk m.list.length) hs
   rw [HD.out] at hf
   have HF2 := Lib.hid hf
   have HFS := Lib.hid (HFD.out s (List.mem_of_getElem? hs))
   have HCS := Lib.hid (HCA.out s (List.mem_of_getElem? hs))
   have hst := star_eq s
   have hw := origin_ways m.list.length s
   obtain ⟨⟨c0, c1, c2, c3, c4⟩, hz⟩ := mid_cells hbx
   clear hf hs HD HR HFD HCA HTK HTO HEZ
   rcases hw with ⟨h1, ho⟩ | ⟨h1, h2, ho⟩ | ⟨h1, h2, h3, ho⟩ | ⟨h1, h2, h3, h4, ho⟩ | ⟨h1, h2, h3, h4, h5, ho⟩ | ⟨h1, h2, h3, h4, h5, ho⟩
   ·have he := is_empty h1
    have HO := Lib.hid ho
    clear h1 ho hst
    go_wp2
    go_ret
    exact ⟨ret_bool (by rw [HF2.out, HO.out]; rfl), hbw⟩
   ·have he := not_empty h1
    have HO := Lib.hid ho
    rw [h2] at HFS
    clear h1 h2 ho hst
    go_wp2_with fail
    refine (HFS.out _).mono ?_
    rintro e w1 ⟨rfl, rfl⟩
    go_wp2
    go_ret
    exact ⟨ret_bool (by rw [HF2.out, HO.out]; rfl), hbw⟩
   ·have he := not_empty h1
    have HO := Lib.hid ho
    rw [h2] at HFS
    rw [h3] at HCS
    clear h1 h2 h3 ho hst
    go_wp2_with fail
    refine (HFS.out _).mono ?_
    rintro e w1 ⟨rfl, rfl⟩
    go_wp2_with fail
    refine (HCS.out _).mono ?_
    rintro e w1 ⟨rfl, hb1⟩
    have hb2 := hbw.trans (hb1.mono hbw.size)
    clear hb1
    go_wp2
    go_ret
    exact ⟨ret_bool (by rw [HF2.out, HO.out]; rfl), hb2⟩
   ·have he := not_empty h1
    have HO := Lib.hid ho
    rw [h2] at HFS
    rw [h3] at HCS
    rw [decide_eq_false h4] at hst
    clear h1 h2 h3 ho h4
    go_wp2_with fail
    refine (HFS.out _).mono ?_
    rintro e w1 ⟨rfl, rfl⟩
    go_wp2_with fail
    refine (HCS.out _).mono ?_
    rintro e w1 ⟨rfl, hb1⟩
    have hb2 := box_step hbx hb1
    clear hb1 hbx hbw c0 c1 c2 c3 c4 hz
    go_wp2
    go_roundw
    case rel => exact ⟨k + 1, by omega, by go_num, Lib.hid (by rw [HF2.out, HO.out]; rfl), hb2⟩
    case measure => simp [RowKit.intOf]; omega
   ·have he := not_empty h1
    have HO := Lib.hid ho
    have h1n : decide ((1 : Int) < (m.list.length : Int)) = true := decide_eq_true (by omega)
    rw [h2] at HFS
    rw [h3] at HCS
    rw [decide_eq_true h4] at hst
    clear h1 h2 h3 ho h4
    go_wp2_with fail
    refine (HFS.out _).mono ?_
    rintro e w1 ⟨rfl, rfl⟩
    go_wp2_with fail
    refine (HCS.out _).mono ?_
    rintro e w1 ⟨rfl, hb1⟩
    have hb2 := box_step hbx hb1
    obtain ⟨⟨d0, d1, d2, d3, d4⟩, hy⟩ := mid_cells hb2
    have hb3 := below_box hb2
    clear hb1 hbx hbw c0 c1 c2 c3 c4 hz hb2
    go_wp2
    go_ret
    exact ⟨ret_bool (by rw [HF2.out, HO.out]; rfl), hb3⟩
   ·have he := not_empty h1
    have HO := Lib.hid ho
    have h1n : decide ((1 : Int) < (m.list.length : Int)) = false := decide_eq_false (by omega)
    rw [h2] at HFS
    rw [h3] at HCS
    rw [decide_eq_true h4] at hst
    clear h1 h2 h3 ho h4
    go_wp2_with fail
    refine (HFS.out _).mono ?_
    rintro e w1 ⟨rfl, rfl⟩
    go_wp2_with fail
    refine (HCS.out _).mono ?_
    rintro e w1 ⟨rfl, hb1⟩
    have hb2 := box_step hbx hb1
    obtain ⟨⟨d0, d1, d2, d3, d4⟩, hy⟩ := mid_cells hb2
    clear hb1 hbx hbw c0 c1 c2 c3 c4 hz
    go_wp2
    go_roundw
    case rel => exact ⟨k + 1, by omega, by go_num, Lib.hid (by rw [HF2.out, HO.out]; rfl), hb2⟩
    case measure => simp [RowKit.intOf]; omega
  ·obtain rfl : k = m.list.length := by omega
   obtain ⟨⟨c0, c1, c2, c3, c4⟩, hz⟩ := mid_cells hbx
   have hd := HD.out
   rw [all_end] at hd
   have HD2 := Lib.hid hd
   clear hd HD HR HFD HCA
   cases hto : toksO m.value with
   | none =>
    have HTV := Lib.hid (show tokensOk m.value = false by rw [HTO.out, hto])
    rw [hto] at HTK
    unfold GivesTokO at HTK
    dsimp only at HTK
    clear hto HTO HEZ
    go_wp2_with fail
    refine (HTK.out _ hbw).mono ?_
    rintro e w1 ⟨TA, tc, tl, tx, rfl, _, htx, hb1⟩
    have hb2 := box_step hbx hb1
    obtain ⟨⟨d0, d1, d2, d3, d4⟩, hy⟩ := mid_cells hb2
    have hb3 := below_box hb2
    have htx2 : (tx == 0) = false := beq_eq_false_iff_ne.2 htx
    clear hb1 hbx hbw c0 c1 c2 c3 c4 hz hb2 htx
    by_cases h1 : 0 < m.list.length
    ·have h1a : decide ((0 : Int) < (m.list.length : Int)) = true := decide_eq_true (by omega)
     by_cases h2 : 0 ≤ m.n
     ·have h2a : decide (0 ≤ m.n) = true := decide_eq_true h2
      go_wp2_with fail
      go_quiet (fail)
      go_wp2
      go_ret
      exact ⟨ret_bool (by rw [← HD2.out, HTV.out]; simp), below_drN2 hb3 _⟩
     ·have h2a : decide (0 ≤ m.n) = false := decide_eq_false h2
      go_wp2_with fail
      go_quiet (fail)
      go_wp2
      go_ret
      exact ⟨ret_bool (by rw [← HD2.out, HTV.out]; simp), below_drN2 hb3 _⟩
    ·have h1a : decide ((0 : Int) < (m.list.length : Int)) = false := decide_eq_false (by omega)
     have HL0 := Lib.hid h1
     go_wp2_with fail
     go_quiet (fail)
     go_wp2
     go_ret
     exact ⟨ret_bool (by rw [← HD2.out, HTV.out]; simp), below_drN2 hb3 _⟩
   | some tl0 =>
    have HTV := Lib.hid (show tokensOk m.value = decide (joinR tl0 = m.value) by rw [HTO.out, hto])
    obtain ⟨hz1, hz2⟩ := HEZ.out _ hto
    have hvz := HVZ.out
    rw [hto] at HTK
    unfold GivesTokO at HTK
    dsimp only at HTK
    clear hto HTO HEZ
    go_wp2_with fail
    refine (HTK.out _ hbw).mono ?_
    rintro e w1 ⟨TA, tc, tl, tx, rfl, hown, ⟨htl, htx⟩, hb1⟩
    subst htx
    subst htl
    have hb2 := box_step hbx hb1
    obtain ⟨⟨d0, d1, d2, d3, d4⟩, hy⟩ := mid_cells hb2
    have hb3 := below_box hb2
    have HJ := Lib.hid (fun (W : World) (h : Below w1.heap.size w1 W) => Join_any TA tc tl W ((own_row hown).below h) (own_cap hown) (by omega))
    clear hb1 hbx hbw c0 c1 c2 c3 c4 hz hown hz1 hz2
    generalize joinR tl = js at *
    by_cases h1 : 0 < m.list.length
    ·have h1a : decide ((0 : Int) < (m.list.length : Int)) = true := decide_eq_true (by omega)
     have h1b : decide (0 < m.list.length) = true := decide_eq_true h1
     by_cases h2 : 0 ≤ m.n
     ·have h2a : decide (0 ≤ m.n) = true := decide_eq_true h2
      have hS : ∀ W : World, Below w1.heap.size w1 W → (Below w1.heap.size w1 W ∧ W.cell? ⟨w.heap.size, 2, none⟩ = some (.string m.value) ∧ W.cell? ⟨w.heap.size, 3, none⟩ = some (.slice A m.list.length c) ∧ W.cell? ⟨w.heap.size, 4, none⟩ = some (.int .i64 m.n)) := fun W h => ⟨h, (h.cell (p := ⟨w.heap.size, 2, none⟩) hy).trans d2, (h.cell (p := ⟨w.heap.size, 3, none⟩) hy).trans d3, (h.cell (p := ⟨w.heap.size, 4, none⟩) hy).trans d4⟩
      have HS := Lib.hid hS
      have HN0 := Lib.hid h2a
      have HL0 := Lib.hid h1b
      clear hS HTK
      have HFIN : (js.toList == m.value.toList) = decide (js = m.value) := by
       rw [← lit_eq js m.value, Lib.toList_data m.value]
      cases hj : decide (js = m.value)
      all_goals
       rw [hj] at HFIN HTV
       go_wp2_with fail
       go_region_held3 (fun w' => Below w1.heap.size w1 w' ∧ w'.cell? ⟨w.heap.size, 2, none⟩ = some (.string m.value) ∧ w'.cell? ⟨w.heap.size, 3, none⟩ = some (.slice A m.list.length c) ∧ w'.cell? ⟨w.heap.size, 4, none⟩ = some (.int .i64 m.n))
        (first | exact HS.out _ (Below.refl _ _) | exact HS.out _ (below_dr2 (Below.refl _ _)) | exact HS.out _ (below_stp (below_dr2 (Below.refl _ _)) hbj (by simp)) | (go_split_ands; exact HS.out _ (below_stp (by assumption) hbj (by simp))))
        (first | (go_at_call 96; ((with_reducible refine (HJ.out _ (by first | exact below_dr2 (Below.refl _ _) | (go_split_ands; assumption))).mono ?_); rintro e w' ⟨rfl, hbj⟩)))
       go_wp2
       go_ret
       exact ⟨ret_bool (by rw [← HD2.out, HN0.out, HL0.out, HTV.out]; rfl), hb3.trans (Below.mono (by first | exact (below_dr2 (Below.refl _ _)).trans (hbj.mono (by simp)) | (go_split_ands; assumption)) hb3.size)⟩
     ·have h2a : decide (0 ≤ m.n) = false := decide_eq_false h2
      have HN0 := Lib.hid h2a
      go_wp2_with fail
      go_quiet (fail)
      go_wp2
      go_ret
      exact ⟨ret_bool (by rw [← HD2.out, HN0.out]; simp), below_drN2 hb3 _⟩
    ·have h1a : decide ((0 : Int) < (m.list.length : Int)) = false := decide_eq_false (by omega)
     have HL0 := Lib.hid (show decide (0 < m.list.length) = false from decide_eq_false h1)
     go_wp2_with fail
     go_quiet (fail)
     go_wp2
     go_ret
     exact ⟨ret_bool (by rw [← HD2.out, HL0.out]; simp), below_drN2 hb3 _⟩
end Go.Proofs.YtbnafbdhomdcoaaGreatDoor
