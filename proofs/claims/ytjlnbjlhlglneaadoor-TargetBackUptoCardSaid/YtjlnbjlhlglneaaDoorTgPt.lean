/-
  Printing a target that was read: the walk of the program's function.
-/
import Derived.Test.YtjlnbjlhlglneaaDoorTgRp
import Derived.Test.YtjlnbjlhlglneaaDoorTgBl
import Derived.Test.YtjlnbjlhlglneaaDoorTgLib
namespace Go.Proofs.YtjlnbjlhlglneaaDoor
open Go.RowKit Go.Shelf Go.Lib

theorem add_data (a b : ByteArray) : (a ++ b).data.toList = a.data.toList ++ b.data.toList := by simp
set_option maxRecDepth 100000 in
set_option maxHeartbeats 4000000 in
theorem Print_a (h pa qu : ByteArray) (w : World) (hg : Glob w) (hs : (textP ⟨1, h, -1, pa, qu, false⟩).2.size ≤ 4194304) (hb : parseT getT (textP ⟨1, h, -1, pa, qu, false⟩).2 = (⟨1, h, -1, pa, qu, false⟩, 0, 0)) :
    Calls Tryd.prog 21 #[Tg.val ⟨1, h, -1, pa, qu, false⟩] w fun e w' => e = .returned (.tuple #[.string (textP ⟨1, h, -1, pa, qu, false⟩).2, .int .i64 0]) ∧ Below w.heap.size w w' := by
  have hx : (textP ⟨1, h, -1, pa, qu, false⟩).2 = (⟨#[]⟩ : ByteArray) ++ pa := by
    apply bytes_ext
    unfold textP tailT queryT
    simp [mkT, getT]
  rw [hx] at hs hb ⊢
  have HP := Lib.hid (fun w hg => Parse_any getT ((⟨#[]⟩ : ByteArray) ++ pa) w hs hg)
  rw [hb] at HP
  unfold tgVal Tg.val at HP
  dsimp only at HP
  rw [show ((0 : Nat) : Int) = 0 from rfl] at HP
  unfold getT at HP
  simp only [ByteArray.size_append] at hs
  have zp : (pa).size ≤ 4194304 := by omega
  clear hs hb hx
  unfold Tg.val
  dsimp only
  go_enter Tryd.func21, Tryd.ntmps21
  go_wp2_with fail
  have hg1 : Glob (w.alloc (.cells #[.int .i64 1, .string h, .int .i64 (-1), .string pa, .string qu, .bool false] 23)) := hg.alloc _
  refine (HP.out _ hg1).mono ?_
  rintro e w2 ⟨rfl, b3⟩
  have B0 : Below (w.heap.size + 1) (w.alloc (.cells #[.int .i64 1, .string h, .int .i64 (-1), .string pa, .string qu, .bool false] 23)) w2 := by simpa using b3
  obtain ⟨c0, _⟩ := box6 B0 0
  obtain ⟨c1, _⟩ := box6 B0 1
  obtain ⟨c2, _⟩ := box6 B0 2
  obtain ⟨c3, _⟩ := box6 B0 3
  obtain ⟨c4, _⟩ := box6 B0 4
  obtain ⟨c5, _⟩ := box6 B0 5
  have hsz := box_size B0
  have hbw := below_box B0
  clear b3 B0
  go_wp2
  go_ret2
  exact ⟨rfl, by (repeat (first | (with_reducible refine Below.setCell ?_ (by simp) _) | (with_reducible refine Below.alloc ?_ (by omega) _))); exact hbw⟩
set_option maxRecDepth 100000 in
set_option maxHeartbeats 4000000 in
theorem Print_b (h pa qu : ByteArray) (w : World) (hg : Glob w) (hs : (textP ⟨1, h, -1, pa, qu, true⟩).2.size ≤ 4194304) (hb : parseT getT (textP ⟨1, h, -1, pa, qu, true⟩).2 = (⟨1, h, -1, pa, qu, true⟩, 0, 0)) :
    Calls Tryd.prog 21 #[Tg.val ⟨1, h, -1, pa, qu, true⟩] w fun e w' => e = .returned (.tuple #[.string (textP ⟨1, h, -1, pa, qu, true⟩).2, .int .i64 0]) ∧ Below w.heap.size w w' := by
  have hx : (textP ⟨1, h, -1, pa, qu, true⟩).2 = (⟨#[]⟩ : ByteArray) ++ pa ++ ((⟨#[63]⟩ : ByteArray) ++ qu) := by
    apply bytes_ext
    unfold textP tailT queryT
    simp [mkT, getT]
  rw [hx] at hs hb ⊢
  have HP := Lib.hid (fun w hg => Parse_any getT ((⟨#[]⟩ : ByteArray) ++ pa ++ ((⟨#[63]⟩ : ByteArray) ++ qu)) w hs hg)
  rw [hb] at HP
  unfold tgVal Tg.val at HP
  dsimp only at HP
  rw [show ((0 : Nat) : Int) = 0 from rfl] at HP
  unfold getT at HP
  simp only [ByteArray.size_append] at hs
  have zp : (pa).size ≤ 4194304 := by omega
  have zq : (qu).size ≤ 4194304 := by omega
  clear hs hb hx
  unfold Tg.val
  dsimp only
  go_enter Tryd.func21, Tryd.ntmps21
  go_wp2_with fail
  have hg1 : Glob (w.alloc (.cells #[.int .i64 1, .string h, .int .i64 (-1), .string pa, .string qu, .bool true] 23)) := hg.alloc _
  refine (HP.out _ hg1).mono ?_
  rintro e w2 ⟨rfl, b3⟩
  have B0 : Below (w.heap.size + 1) (w.alloc (.cells #[.int .i64 1, .string h, .int .i64 (-1), .string pa, .string qu, .bool true] 23)) w2 := by simpa using b3
  obtain ⟨c0, _⟩ := box6 B0 0
  obtain ⟨c1, _⟩ := box6 B0 1
  obtain ⟨c2, _⟩ := box6 B0 2
  obtain ⟨c3, _⟩ := box6 B0 3
  obtain ⟨c4, _⟩ := box6 B0 4
  obtain ⟨c5, _⟩ := box6 B0 5
  have hsz := box_size B0
  have hbw := below_box B0
  clear b3 B0
  go_wp2
  go_ret2
  exact ⟨rfl, by (repeat (first | (with_reducible refine Below.setCell ?_ (by simp) _) | (with_reducible refine Below.alloc ?_ (by omega) _))); exact hbw⟩
set_option maxRecDepth 100000 in
set_option maxHeartbeats 4000000 in
theorem Print_c (h pa qu : ByteArray) (w : World) (hg : Glob w) (hs : (textP ⟨2, h, -1, pa, qu, false⟩).2.size ≤ 4194304) (hb : parseT getT (textP ⟨2, h, -1, pa, qu, false⟩).2 = (⟨2, h, -1, pa, qu, false⟩, 0, 0)) :
    Calls Tryd.prog 21 #[Tg.val ⟨2, h, -1, pa, qu, false⟩] w fun e w' => e = .returned (.tuple #[.string (textP ⟨2, h, -1, pa, qu, false⟩).2, .int .i64 0]) ∧ Below w.heap.size w w' := by
  have hx : (textP ⟨2, h, -1, pa, qu, false⟩).2 = (⟨#[104, 116, 116, 112, 58, 47, 47]⟩ : ByteArray) ++ h ++ pa := by
    apply bytes_ext
    unfold textP tailT queryT
    simp [mkT, getT, httpT, portT]
  rw [hx] at hs hb ⊢
  have HP := Lib.hid (fun w hg => Parse_any getT ((⟨#[104, 116, 116, 112, 58, 47, 47]⟩ : ByteArray) ++ h ++ pa) w hs hg)
  rw [hb] at HP
  unfold tgVal Tg.val at HP
  dsimp only at HP
  rw [show ((0 : Nat) : Int) = 0 from rfl] at HP
  unfold getT at HP
  simp only [ByteArray.size_append] at hs
  have zh : (h).size ≤ 4194304 := by omega
  have zp : (pa).size ≤ 4194304 := by omega
  clear hs hb hx
  unfold Tg.val
  dsimp only
  go_enter Tryd.func21, Tryd.ntmps21
  go_wp2_with fail
  have hg1 : Glob (w.alloc (.cells #[.int .i64 2, .string h, .int .i64 (-1), .string pa, .string qu, .bool false] 23)) := hg.alloc _
  refine (HP.out _ hg1).mono ?_
  rintro e w2 ⟨rfl, b3⟩
  have B0 : Below (w.heap.size + 1) (w.alloc (.cells #[.int .i64 2, .string h, .int .i64 (-1), .string pa, .string qu, .bool false] 23)) w2 := by simpa using b3
  obtain ⟨c0, _⟩ := box6 B0 0
  obtain ⟨c1, _⟩ := box6 B0 1
  obtain ⟨c2, _⟩ := box6 B0 2
  obtain ⟨c3, _⟩ := box6 B0 3
  obtain ⟨c4, _⟩ := box6 B0 4
  obtain ⟨c5, _⟩ := box6 B0 5
  have hsz := box_size B0
  have hbw := below_box B0
  clear b3 B0
  go_wp2
  go_ret2
  exact ⟨rfl, by (repeat (first | (with_reducible refine Below.setCell ?_ (by simp) _) | (with_reducible refine Below.alloc ?_ (by omega) _))); exact hbw⟩
set_option maxRecDepth 100000 in
set_option maxHeartbeats 4000000 in
theorem Print_d (h pa qu : ByteArray) (w : World) (hg : Glob w) (hs : (textP ⟨2, h, -1, pa, qu, true⟩).2.size ≤ 4194304) (hb : parseT getT (textP ⟨2, h, -1, pa, qu, true⟩).2 = (⟨2, h, -1, pa, qu, true⟩, 0, 0)) :
    Calls Tryd.prog 21 #[Tg.val ⟨2, h, -1, pa, qu, true⟩] w fun e w' => e = .returned (.tuple #[.string (textP ⟨2, h, -1, pa, qu, true⟩).2, .int .i64 0]) ∧ Below w.heap.size w w' := by
  have hx : (textP ⟨2, h, -1, pa, qu, true⟩).2 = (⟨#[104, 116, 116, 112, 58, 47, 47]⟩ : ByteArray) ++ h ++ pa ++ ((⟨#[63]⟩ : ByteArray) ++ qu) := by
    apply bytes_ext
    unfold textP tailT queryT
    simp [mkT, getT, httpT, portT]
  rw [hx] at hs hb ⊢
  have HP := Lib.hid (fun w hg => Parse_any getT ((⟨#[104, 116, 116, 112, 58, 47, 47]⟩ : ByteArray) ++ h ++ pa ++ ((⟨#[63]⟩ : ByteArray) ++ qu)) w hs hg)
  rw [hb] at HP
  unfold tgVal Tg.val at HP
  dsimp only at HP
  rw [show ((0 : Nat) : Int) = 0 from rfl] at HP
  unfold getT at HP
  simp only [ByteArray.size_append] at hs
  have zh : (h).size ≤ 4194304 := by omega
  have zp : (pa).size ≤ 4194304 := by omega
  have zq : (qu).size ≤ 4194304 := by omega
  clear hs hb hx
  unfold Tg.val
  dsimp only
  go_enter Tryd.func21, Tryd.ntmps21
  go_wp2_with fail
  have hg1 : Glob (w.alloc (.cells #[.int .i64 2, .string h, .int .i64 (-1), .string pa, .string qu, .bool true] 23)) := hg.alloc _
  refine (HP.out _ hg1).mono ?_
  rintro e w2 ⟨rfl, b3⟩
  have B0 : Below (w.heap.size + 1) (w.alloc (.cells #[.int .i64 2, .string h, .int .i64 (-1), .string pa, .string qu, .bool true] 23)) w2 := by simpa using b3
  obtain ⟨c0, _⟩ := box6 B0 0
  obtain ⟨c1, _⟩ := box6 B0 1
  obtain ⟨c2, _⟩ := box6 B0 2
  obtain ⟨c3, _⟩ := box6 B0 3
  obtain ⟨c4, _⟩ := box6 B0 4
  obtain ⟨c5, _⟩ := box6 B0 5
  have hsz := box_size B0
  have hbw := below_box B0
  clear b3 B0
  go_wp2
  go_ret2
  exact ⟨rfl, by (repeat (first | (with_reducible refine Below.setCell ?_ (by simp) _) | (with_reducible refine Below.alloc ?_ (by omega) _))); exact hbw⟩
set_option maxRecDepth 100000 in
set_option maxHeartbeats 4000000 in
theorem Print_e (h pa qu : ByteArray) (p : Int) (w : World) (hp : 0 ≤ p ∧ p ≤ 65535) (hg : Glob w) (hs : (textP ⟨2, h, p, pa, qu, false⟩).2.size ≤ 4194304) (hb : parseT getT (textP ⟨2, h, p, pa, qu, false⟩).2 = (⟨2, h, p, pa, qu, false⟩, 0, 0)) :
    Calls Tryd.prog 21 #[Tg.val ⟨2, h, p, pa, qu, false⟩] w fun e w' => e = .returned (.tuple #[.string (textP ⟨2, h, p, pa, qu, false⟩).2, .int .i64 0]) ∧ Below w.heap.size w w' := by
  have hx : (textP ⟨2, h, p, pa, qu, false⟩).2 = (⟨#[104, 116, 116, 112, 58, 47, 47]⟩ : ByteArray) ++ h ++ ((⟨#[58]⟩ : ByteArray) ++ itoaT p) ++ pa := by
    apply bytes_ext
    unfold textP tailT queryT
    simp [mkT, getT, httpT, portT, itoaT, show ¬ p = -1 by omega]
  rw [hx] at hs hb ⊢
  have HP := Lib.hid (fun w hg => Parse_any getT ((⟨#[104, 116, 116, 112, 58, 47, 47]⟩ : ByteArray) ++ h ++ ((⟨#[58]⟩ : ByteArray) ++ itoaT p) ++ pa) w hs hg)
  rw [hb] at HP
  unfold tgVal Tg.val at HP
  dsimp only at HP
  rw [show ((0 : Nat) : Int) = 0 from rfl] at HP
  unfold getT at HP
  have HD := Lib.hid (fun w hg => Digits_any p w (by omega) (by omega) hg)
  have hne : (p != -1) = true := by rw [bne_iff_ne]; omega
  simp only [ByteArray.size_append] at hs
  have zh : (h).size ≤ 4194304 := by omega
  have zp : (pa).size ≤ 4194304 := by omega
  have zi : (itoaT p).size ≤ 4194304 := by omega
  clear hs hb hx
  generalize itoaT p = d at *
  unfold Tg.val
  dsimp only
  go_enter Tryd.func21, Tryd.ntmps21
  go_wp2_with fail
  have hg1 : Glob (w.alloc (.cells #[.int .i64 2, .string h, .int .i64 p, .string pa, .string qu, .bool false] 23)) := hg.alloc _
  refine (HD.out _ hg1).mono ?_
  rintro e w1 ⟨rfl, b1⟩
  have hg2 := hg1.beyond b1
  have B1 : Below (w.heap.size + 1) (w.alloc (.cells #[.int .i64 2, .string h, .int .i64 p, .string pa, .string qu, .bool false] 23)) w1 := by simpa using b1
  obtain ⟨e3, _⟩ := box6 B1 3
  obtain ⟨e4, _⟩ := box6 B1 4
  obtain ⟨e5, _⟩ := box6 B1 5
  clear B1
  go_wp2_with fail
  refine (HP.out _ hg2).mono ?_
  rintro e w2 ⟨rfl, b2⟩
  have b3 := b1.trans (b2.mono b1.size)
  clear b1 b2 e3 e4 e5
  have B0 : Below (w.heap.size + 1) (w.alloc (.cells #[.int .i64 2, .string h, .int .i64 p, .string pa, .string qu, .bool false] 23)) w2 := by simpa using b3
  obtain ⟨c0, _⟩ := box6 B0 0
  obtain ⟨c1, _⟩ := box6 B0 1
  obtain ⟨c2, _⟩ := box6 B0 2
  obtain ⟨c3, _⟩ := box6 B0 3
  obtain ⟨c4, _⟩ := box6 B0 4
  obtain ⟨c5, _⟩ := box6 B0 5
  have hsz := box_size B0
  have hbw := below_box B0
  clear b3 B0
  go_wp2
  go_ret2
  exact ⟨rfl, by (repeat (first | (with_reducible refine Below.setCell ?_ (by simp) _) | (with_reducible refine Below.alloc ?_ (by omega) _))); exact hbw⟩
set_option maxRecDepth 100000 in
set_option maxHeartbeats 4000000 in
theorem Print_f (h pa qu : ByteArray) (p : Int) (w : World) (hp : 0 ≤ p ∧ p ≤ 65535) (hg : Glob w) (hs : (textP ⟨2, h, p, pa, qu, true⟩).2.size ≤ 4194304) (hb : parseT getT (textP ⟨2, h, p, pa, qu, true⟩).2 = (⟨2, h, p, pa, qu, true⟩, 0, 0)) :
    Calls Tryd.prog 21 #[Tg.val ⟨2, h, p, pa, qu, true⟩] w fun e w' => e = .returned (.tuple #[.string (textP ⟨2, h, p, pa, qu, true⟩).2, .int .i64 0]) ∧ Below w.heap.size w w' := by
  have hx : (textP ⟨2, h, p, pa, qu, true⟩).2 = (⟨#[104, 116, 116, 112, 58, 47, 47]⟩ : ByteArray) ++ h ++ ((⟨#[58]⟩ : ByteArray) ++ itoaT p) ++ pa ++ ((⟨#[63]⟩ : ByteArray) ++ qu) := by
    apply bytes_ext
    unfold textP tailT queryT
    simp [mkT, getT, httpT, portT, itoaT, show ¬ p = -1 by omega]
  rw [hx] at hs hb ⊢
  have HP := Lib.hid (fun w hg => Parse_any getT ((⟨#[104, 116, 116, 112, 58, 47, 47]⟩ : ByteArray) ++ h ++ ((⟨#[58]⟩ : ByteArray) ++ itoaT p) ++ pa ++ ((⟨#[63]⟩ : ByteArray) ++ qu)) w hs hg)
  rw [hb] at HP
  unfold tgVal Tg.val at HP
  dsimp only at HP
  rw [show ((0 : Nat) : Int) = 0 from rfl] at HP
  unfold getT at HP
  have HD := Lib.hid (fun w hg => Digits_any p w (by omega) (by omega) hg)
  have hne : (p != -1) = true := by rw [bne_iff_ne]; omega
  simp only [ByteArray.size_append] at hs
  have zh : (h).size ≤ 4194304 := by omega
  have zp : (pa).size ≤ 4194304 := by omega
  have zq : (qu).size ≤ 4194304 := by omega
  have zi : (itoaT p).size ≤ 4194304 := by omega
  clear hs hb hx
  generalize itoaT p = d at *
  unfold Tg.val
  dsimp only
  go_enter Tryd.func21, Tryd.ntmps21
  go_wp2_with fail
  have hg1 : Glob (w.alloc (.cells #[.int .i64 2, .string h, .int .i64 p, .string pa, .string qu, .bool true] 23)) := hg.alloc _
  refine (HD.out _ hg1).mono ?_
  rintro e w1 ⟨rfl, b1⟩
  have hg2 := hg1.beyond b1
  have B1 : Below (w.heap.size + 1) (w.alloc (.cells #[.int .i64 2, .string h, .int .i64 p, .string pa, .string qu, .bool true] 23)) w1 := by simpa using b1
  obtain ⟨e3, _⟩ := box6 B1 3
  obtain ⟨e4, _⟩ := box6 B1 4
  obtain ⟨e5, _⟩ := box6 B1 5
  clear B1
  go_wp2_with fail
  refine (HP.out _ hg2).mono ?_
  rintro e w2 ⟨rfl, b2⟩
  have b3 := b1.trans (b2.mono b1.size)
  clear b1 b2 e3 e4 e5
  have B0 : Below (w.heap.size + 1) (w.alloc (.cells #[.int .i64 2, .string h, .int .i64 p, .string pa, .string qu, .bool true] 23)) w2 := by simpa using b3
  obtain ⟨c0, _⟩ := box6 B0 0
  obtain ⟨c1, _⟩ := box6 B0 1
  obtain ⟨c2, _⟩ := box6 B0 2
  obtain ⟨c3, _⟩ := box6 B0 3
  obtain ⟨c4, _⟩ := box6 B0 4
  obtain ⟨c5, _⟩ := box6 B0 5
  have hsz := box_size B0
  have hbw := below_box B0
  clear b3 B0
  go_wp2
  go_ret2
  exact ⟨rfl, by (repeat (first | (with_reducible refine Below.setCell ?_ (by simp) _) | (with_reducible refine Below.alloc ?_ (by omega) _))); exact hbw⟩
set_option maxRecDepth 100000 in
set_option maxHeartbeats 4000000 in
theorem Print_g (h pa qu : ByteArray) (p : Int) (w : World) (hp : 0 ≤ p ∧ p ≤ 65535) (hg : Glob w) (hs : (textP ⟨3, h, p, pa, qu, false⟩).2.size ≤ 4194304) (hb : parseT connT (textP ⟨3, h, p, pa, qu, false⟩).2 = (⟨3, h, p, pa, qu, false⟩, 0, 0)) :
    Calls Tryd.prog 21 #[Tg.val ⟨3, h, p, pa, qu, false⟩] w fun e w' => e = .returned (.tuple #[.string (textP ⟨3, h, p, pa, qu, false⟩).2, .int .i64 0]) ∧ Below w.heap.size w w' := by
  have hx : (textP ⟨3, h, p, pa, qu, false⟩).2 = h ++ ((⟨#[58]⟩ : ByteArray) ++ itoaT p) ++ pa := by
    apply bytes_ext
    unfold textP tailT queryT
    simp [mkT, connT, portT, itoaT, show ¬ p = -1 by omega]
  rw [hx] at hs hb ⊢
  have HP := Lib.hid (fun w hg => Parse_any connT (h ++ ((⟨#[58]⟩ : ByteArray) ++ itoaT p) ++ pa) w hs hg)
  rw [hb] at HP
  unfold tgVal Tg.val at HP
  dsimp only at HP
  rw [show ((0 : Nat) : Int) = 0 from rfl] at HP
  unfold connT at HP
  have HD := Lib.hid (fun w hg => Digits_any p w (by omega) (by omega) hg)
  have hne : (p != -1) = true := by rw [bne_iff_ne]; omega
  simp only [ByteArray.size_append] at hs
  have zh : (h).size ≤ 4194304 := by omega
  have zp : (pa).size ≤ 4194304 := by omega
  have zi : (itoaT p).size ≤ 4194304 := by omega
  clear hs hb hx
  generalize itoaT p = d at *
  unfold Tg.val
  dsimp only
  go_enter Tryd.func21, Tryd.ntmps21
  go_wp2_with fail
  have hg1 : Glob (w.alloc (.cells #[.int .i64 3, .string h, .int .i64 p, .string pa, .string qu, .bool false] 23)) := hg.alloc _
  refine (HD.out _ hg1).mono ?_
  rintro e w1 ⟨rfl, b1⟩
  have hg2 := hg1.beyond b1
  have B1 : Below (w.heap.size + 1) (w.alloc (.cells #[.int .i64 3, .string h, .int .i64 p, .string pa, .string qu, .bool false] 23)) w1 := by simpa using b1
  obtain ⟨e3, _⟩ := box6 B1 3
  obtain ⟨e4, _⟩ := box6 B1 4
  obtain ⟨e5, _⟩ := box6 B1 5
  clear B1
  go_wp2_with fail
  refine (HP.out _ hg2).mono ?_
  rintro e w2 ⟨rfl, b2⟩
  have b3 := b1.trans (b2.mono b1.size)
  clear b1 b2 e3 e4 e5
  have B0 : Below (w.heap.size + 1) (w.alloc (.cells #[.int .i64 3, .string h, .int .i64 p, .string pa, .string qu, .bool false] 23)) w2 := by simpa using b3
  obtain ⟨c0, _⟩ := box6 B0 0
  obtain ⟨c1, _⟩ := box6 B0 1
  obtain ⟨c2, _⟩ := box6 B0 2
  obtain ⟨c3, _⟩ := box6 B0 3
  obtain ⟨c4, _⟩ := box6 B0 4
  obtain ⟨c5, _⟩ := box6 B0 5
  have hsz := box_size B0
  have hbw := below_box B0
  clear b3 B0
  go_wp2
  go_ret2
  exact ⟨rfl, by (repeat (first | (with_reducible refine Below.setCell ?_ (by simp) _) | (with_reducible refine Below.alloc ?_ (by omega) _))); exact hbw⟩
set_option maxRecDepth 100000 in
set_option maxHeartbeats 4000000 in
theorem Print_h (h pa qu : ByteArray) (w : World) (hg : Glob w) (hs : (textP ⟨4, h, -1, pa, qu, false⟩).2.size ≤ 4194304) (hb : parseT optT (textP ⟨4, h, -1, pa, qu, false⟩).2 = (⟨4, h, -1, pa, qu, false⟩, 0, 0)) :
    Calls Tryd.prog 21 #[Tg.val ⟨4, h, -1, pa, qu, false⟩] w fun e w' => e = .returned (.tuple #[.string (textP ⟨4, h, -1, pa, qu, false⟩).2, .int .i64 0]) ∧ Below w.heap.size w w' := by
  have hx : (textP ⟨4, h, -1, pa, qu, false⟩).2 = (⟨#[42]⟩ : ByteArray) ++ pa := by
    apply bytes_ext
    unfold textP tailT queryT
    simp [mkT, optT, starT, portT]
  rw [hx] at hs hb ⊢
  have HP := Lib.hid (fun w hg => Parse_any optT ((⟨#[42]⟩ : ByteArray) ++ pa) w hs hg)
  rw [hb] at HP
  unfold tgVal Tg.val at HP
  dsimp only at HP
  rw [show ((0 : Nat) : Int) = 0 from rfl] at HP
  unfold optT at HP
  simp only [ByteArray.size_append] at hs
  have zp : (pa).size ≤ 4194304 := by omega
  clear hs hb hx
  unfold Tg.val
  dsimp only
  go_enter Tryd.func21, Tryd.ntmps21
  go_wp2_with fail
  have hg1 : Glob (w.alloc (.cells #[.int .i64 4, .string h, .int .i64 (-1), .string pa, .string qu, .bool false] 23)) := hg.alloc _
  refine (HP.out _ hg1).mono ?_
  rintro e w2 ⟨rfl, b3⟩
  have B0 : Below (w.heap.size + 1) (w.alloc (.cells #[.int .i64 4, .string h, .int .i64 (-1), .string pa, .string qu, .bool false] 23)) w2 := by simpa using b3
  obtain ⟨c0, _⟩ := box6 B0 0
  obtain ⟨c1, _⟩ := box6 B0 1
  obtain ⟨c2, _⟩ := box6 B0 2
  obtain ⟨c3, _⟩ := box6 B0 3
  obtain ⟨c4, _⟩ := box6 B0 4
  obtain ⟨c5, _⟩ := box6 B0 5
  have hsz := box_size B0
  have hbw := below_box B0
  clear b3 B0
  go_wp2
  go_ret2
  exact ⟨rfl, by (repeat (first | (with_reducible refine Below.setCell ?_ (by simp) _) | (with_reducible refine Below.alloc ?_ (by omega) _))); exact hbw⟩
end Go.Proofs.YtjlnbjlhlglneaaDoor
