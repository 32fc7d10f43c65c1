/-
 CjV3, without what this claim does not reach.
-/
import Derived.Test.YtbnafbdhomdcoaaGreatDoorZCjV2
import Derived.Test.YtbnafbdhomdcoaaGreatDoorZCjI
namespace Go.Proofs.YtbnafbdhomdcoaaGreatDoor
open Go.RowKit Go.Shelf Go.Lib
theorem mid_cells {w w1 : World} {m : Mid} {A : Option Addr} {c : Nat} (h : Below (w.heap.size + 1) (w.alloc (.cells #[.int .i64 m.kind, .string m.name, .string m.value, .slice A m.list.length c, .int .i64 m.n] 24)) w1) :
  (w1.cell? ⟨w.heap.size, 0, none⟩ = some (.int .i64 m.kind) ∧ w1.cell? ⟨w.heap.size, 1, none⟩ = some (.string m.name) ∧ w1.cell? ⟨w.heap.size, 2, none⟩ = some (.string m.value) ∧ w1.cell? ⟨w.heap.size, 3, none⟩ = some (.slice A m.list.length c) ∧ w1.cell? ⟨w.heap.size, 4, none⟩ = some (.int .i64 m.n)) ∧ w.heap.size < w1.heap.size :=
 ⟨⟨(box6 h 0).1, (box6 h 1).1, (box6 h 2).1, (box6 h 3).1, (box6 h 4).1⟩, box_size h⟩
theorem mid_box (w : World) (o : Obj) : Below (w.heap.size + 1) (w.alloc o) (w.alloc o) := Below.refl _ _
theorem box_step {w W w2 : World} {o : Obj} (h : Below (w.heap.size + 1) (w.alloc o) W) (h2 : Below W.heap.size W w2) : Below (w.heap.size + 1) (w.alloc o) w2 := h.trans (h2.mono (by have := h.size; simpa using this))
set_option maxRecDepth 20000 in
set_option maxHeartbeats 1000000 in
theorem rightBasic_any (m : Mid) (A : Option Addr) (c : Nat) (w : World) (hr : Row w A (m.list.map .string)) (hm : FitM m) :
  Calls Tryz.prog 68 #[midV m A c] w fun e w' => e = .returned (.bool (m.list.all basicOk && (isFld m.name && decide (0 < m.list.length)))) ∧ Below w.heap.size w w' := by
 have hl : m.list.length ≤ 1048576 := (list_sizes hm.list).2.1
 have HR := Lib.hid (fun (W : World) (h : Below w.heap.size w W) => hr.below h)
 have HF := Lib.hid (fun w => IsField_any m.name w hm.nameL)
 clear hr hm
 unfold midV
 go_enter Tryz.func68, Tryz.ntmps68
 go_wp2
 go_loopw [8] (fun i wr => ∃ k : Nat, k ≤ m.list.length ∧ i = .int .i64 k ∧ Hid ((m.list.drop k).all basicOk = m.list.all basicOk) ∧ Below (w.heap.size + 1) (w.alloc (.cells #[.int .i64 m.kind, .string m.name, .string m.value, .slice A m.list.length c, .int .i64 m.n] 24)) wr) (fun i _ => m.list.length - (RowKit.intOf i).toNat)
 case atStart => exact ⟨0, Nat.zero_le _, rfl, Lib.hid rfl, mid_box w _⟩
 case round =>
  obtain ⟨k, hk, rfl, HD, hbx⟩ := hrel
  have hbw := below_box hbx
  by_cases hlt : k < m.list.length
  ·obtain ⟨s, hs⟩ := some_of_lt hlt
   obtain ⟨b, off, rfl, hb, hcell⟩ := (HR.out wr hbw).str hs
   have hf := all_at (P := basicOk) hs
   rw [HD.out] at hf
   have HF2 := Lib.hid hf
   have HI := Lib.hid (fun w => IndexByte_any s 58 w (by omega) (by omega))
   have HX := Lib.hid (fun w => idxCtl_any s w)
   have HB := Lib.hid (show basicOk s = (decide (1 ≤ findB s 58) && allB (fun c => !ctlB c) s) from rfl)
   have HQ := Lib.hid (idxFunc_ctl s)
   clear hf hs HD HR
   generalize findB s 58 = f at *
   generalize Lib.idxFunc ctlN true s = x at *
   by_cases h1 : f < 1
   ·have h1d : decide (f < 1) = true := decide_eq_true h1
    have HB2 := Lib.hid (show basicOk s = false by rw [HB.out, decide_eq_false (by omega)]; rfl)
    go_wp2_with fail
    refine (HI.out _).mono ?_
    rintro e w1 ⟨rfl, rfl⟩
    go_wp2
    go_ret
    exact ⟨ret_bool (by rw [HF2.out, HB2.out]; rfl), hbw⟩
   ·have h1d : decide (f < 1) = false := decide_eq_false h1
    have h1e := HQ.out
    by_cases h2 : 0 ≤ x
    ·have h2d : decide (0 ≤ x) = true := decide_eq_true h2
     have hA : allB (fun c => !ctlB c) s = false := by
      cases h : allB (fun c => !ctlB c) s
      ·rfl
      ·rw [h2d, h] at h1e; cases h1e
     have HB2 := Lib.hid (show basicOk s = false by rw [HB.out, hA, Bool.and_false])
     clear hA
     clear h1e HQ
     go_wp2_with fail
     refine (HI.out _).mono ?_
     rintro e w1 ⟨rfl, rfl⟩
     go_wp2_with fail
     refine (HX.out _).mono ?_
     rintro e w1 ⟨rfl, hb1⟩
     have hb2 := hbw.trans (hb1.mono hbw.size)
     clear hb1
     go_wp2
     go_ret
     exact ⟨ret_bool (by rw [HF2.out, HB2.out]; rfl), hb2⟩
    ·have h2d : decide (0 ≤ x) = false := decide_eq_false h2
     have hA : allB (fun c => !ctlB c) s = true := by
      cases h : allB (fun c => !ctlB c) s
      ·rw [h2d, h] at h1e; cases h1e
      ·rfl
     have HB2 := Lib.hid (show basicOk s = true by rw [HB.out, hA, decide_eq_true (by omega)]; rfl)
     clear hA
     clear h1e HQ
     go_wp2_with fail
     refine (HI.out _).mono ?_
     rintro e w1 ⟨rfl, rfl⟩
     go_wp2_with fail
     refine (HX.out _).mono ?_
     rintro e w1 ⟨rfl, hb1⟩
     have hb2 := box_step hbx hb1
     clear hb1 hbx hbw
     go_wp2
     go_roundw
     case rel => exact ⟨k + 1, by omega, by go_num, Lib.hid (by rw [HF2.out, HB2.out]; rfl), hb2⟩
     case measure => simp [RowKit.intOf]; omega
  ·obtain rfl : k = m.list.length := by omega
   obtain ⟨⟨c0, c1, c2, c3, c4⟩, hz⟩ := mid_cells hbx
   have hd := HD.out
   rw [all_end] at hd
   have HD2 := Lib.hid hd
   clear hd HD hbx HR
   cases h1 : isFld m.name
   ·rw [h1] at HF
    go_wp2_with fail
    refine (HF.out _).mono ?_
    rintro e w1 ⟨rfl, rfl⟩
    have HF0 := Lib.hid h1
    clear h1
    go_wp2
    go_ret
    exact ⟨ret_bool (by rw [← HD2.out, HF0.out]; rfl), hbw⟩
   ·rw [h1] at HF
    go_wp2_with fail
    refine (HF.out _).mono ?_
    rintro e w1 ⟨rfl, rfl⟩
    have HF0 := Lib.hid h1
    clear h1
    go_wp2
    go_ret
    exact ⟨ret_bool (by rw [← HD2.out, HF0.out]; simp), hbw⟩
set_option maxRecDepth 20000 in
set_option maxHeartbeats 1000000 in
theorem rightHosts_any (m : Mid) (A : Option Addr) (c : Nat) (w : World) (hr : Row w A (m.list.map .string)) (hm : FitM m) (hg : GlobC w) :
  Calls Tryz.prog 74 #[midV m A c] w fun e w' => e = .returned (.bool (m.list.all hostOk && decide (0 < m.list.length))) ∧ Below w.heap.size w w' := by
 have hl : m.list.length ≤ 1048576 := (list_sizes hm.list).2.1
 have HR := Lib.hid (fun (W : World) (h : Below w.heap.size w W) => hr.below h)
 have HA := Lib.hid (fun (s : ByteArray) (hs : s ∈ m.list) (W : World) (h : Below w.heap.size w W) => T5.Authority_any s W (Nat.le_trans (list_size hm.list hs) (by decide)) (hg.beyond h).five)
 clear hr hm hg
 unfold midV
 go_enter Tryz.func74, Tryz.ntmps74
 go_wp2
 go_loopw [11] (fun i wr => ∃ k : Nat, k ≤ m.list.length ∧ i = .int .i64 k ∧ Hid ((m.list.drop k).all hostOk = m.list.all hostOk) ∧ Below (w.heap.size + 1) (w.alloc (.cells #[.int .i64 m.kind, .string m.name, .string m.value, .slice A m.list.length c, .int .i64 m.n] 24)) wr) (fun i _ => m.list.length - (RowKit.intOf i).toNat)
 case atStart => exact ⟨0, Nat.zero_le _, rfl, Lib.hid rfl, mid_box w _⟩
 case round =>
  obtain ⟨k, hk, rfl, HD, hbx⟩ := hrel
  have hbw := below_box hbx
  by_cases hlt : k < m.list.length
  ·obtain ⟨s, hs⟩ := some_of_lt hlt
   obtain ⟨b, off, rfl, hb, hcell⟩ := (HR.out wr hbw).str hs
   have hf := all_at (P := hostOk) hs
   rw [HD.out] at hf
   have HF2 := Lib.hid hf
   have HAS := Lib.hid (fun W h => HA.out s (List.mem_of_getElem? hs) W h)
   have HB := Lib.hid (show hostOk s = decide (T5.authR s = (s, -1, 0)) from rfl)
   clear hf hs HD HR HA
   unfold T5.authVal at HAS
   generalize T5.authR s = ar at *
   obtain ⟨ah, ap, ae⟩ := ar
   dsimp only at HAS
   by_cases he : ae = 0
   ·subst he
    by_cases hp : ap = -1
    ·subst hp
     by_cases hs : ah = s
     ·subst hs
      have HB2 := Lib.hid (show hostOk ah = true by rw [HB.out]; simp)
      go_wp2_with fail
      refine (HAS.out _ hbw).mono ?_
      rintro e w1 ⟨rfl, hb1⟩
      have hb2 := box_step hbx hb1
      clear hb1 hbx hbw
      go_wp2
      go_roundw
      case rel => exact ⟨k + 1, by omega, by go_num, Lib.hid (by rw [HF2.out, HB2.out]; rfl), hb2⟩
      case measure => simp [RowKit.intOf]; omega
     ·have hne : (ah.toList == s.toList) = false := beq_eq_false_iff_ne.2 fun h => hs (bytes_ext (by rw [← Lib.toList_data, ← Lib.toList_data]; exact h))
      have HB2 := Lib.hid (show hostOk s = false by rw [HB.out]; exact decide_eq_false fun h => hs (Prod.mk.inj h).1)
      go_wp2_with fail
      refine (HAS.out _ hbw).mono ?_
      rintro e w1 ⟨rfl, hb1⟩
      have hb2 := hbw.trans (hb1.mono hbw.size)
      clear hb1 hs
      go_wp2
      go_ret
      exact ⟨ret_bool (by rw [HF2.out, HB2.out]; rfl), hb2⟩
    ·have hne : (ap != -1) = true := bne_iff_ne.2 hp
     have HB2 := Lib.hid (show hostOk s = false by rw [HB.out]; exact decide_eq_false fun h => hp (Prod.mk.inj (Prod.mk.inj h).2).1)
     go_wp2_with fail
     refine (HAS.out _ hbw).mono ?_
     rintro e w1 ⟨rfl, hb1⟩
     have hb2 := hbw.trans (hb1.mono hbw.size)
     clear hb1 hp
     go_wp2
     go_ret
     exact ⟨ret_bool (by rw [HF2.out, HB2.out]; rfl), hb2⟩
   ·have hne : (ae != 0) = true := bne_iff_ne.2 he
    have HB2 := Lib.hid (show hostOk s = false by rw [HB.out]; exact decide_eq_false fun h => he (Prod.mk.inj (Prod.mk.inj h).2).2)
    go_wp2_with fail
    refine (HAS.out _ hbw).mono ?_
    rintro e w1 ⟨rfl, hb1⟩
    have hb2 := hbw.trans (hb1.mono hbw.size)
    clear hb1 he
    go_wp2
    go_ret
    exact ⟨ret_bool (by rw [HF2.out, HB2.out]; rfl), hb2⟩
  ·obtain rfl : k = m.list.length := by omega
   obtain ⟨⟨c0, c1, c2, c3, c4⟩, hz⟩ := mid_cells hbx
   have hd := HD.out
   rw [all_end] at hd
   have HD2 := Lib.hid hd
   clear hd HD hbx HR
   go_wp2
   go_ret
   exact ⟨ret_bool (by rw [← HD2.out]; simp), hbw⟩
end Go.Proofs.YtbnafbdhomdcoaaGreatDoor
