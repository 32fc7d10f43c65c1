/-
  The text of a target: the walk of the reference's function.
-/
import Derived.Test.YtjlnbjlhlglneaaGreatDoorTgDn
import Derived.Test.YtjlnbjlhlglneaaGreatDoorTgBl
import Derived.Test.YtjlnbjlhlglneaaGreatDoorTgAw
import Derived.BigQuiet
namespace Go.Proofs.YtjlnbjlhlglneaaGreatDoor
open Go.RowKit Go.Shelf Go.Lib

theorem itoaT_small {n : Int} (h0 : -9223372036854775808 ≤ n) (h1 : n ≤ 9223372036854775807) : (itoaT n).size ≤ 4194304 := by
  have h := Lib.nDigits_le20 n.natAbs (by omega)
  have h2 := Lib.nDigits_le20 n.toNat (by omega)
  rw [← size_eq]
  show (Lib.itoa n).length ≤ _
  unfold Lib.itoa
  split
  · rw [List.length_cons, Lib.decDigits_length]; omega
  · rw [Lib.decDigits_length]; omega

set_option maxRecDepth 100000 in
set_option maxHeartbeats 4000000 in
theorem Text_1nn (h pa qu : ByteArray) (w : World) (hz : h.size ≤ 4194304 ∧ pa.size ≤ 4194304 ∧ qu.size ≤ 4194304) :
    Calls Tryz.prog 29 #[Tg.val ⟨1, h, -1, pa, qu, false⟩] w fun e w' => e = .returned (.tuple #[.string (textQ ⟨1, h, -1, pa, qu, false⟩).1, .string (textQ ⟨1, h, -1, pa, qu, false⟩).2]) ∧ Below w.heap.size w w' := by
  obtain ⟨zh, zp, zq⟩ := hz
  have hm : (textQ ⟨1, h, -1, pa, qu, false⟩).1 = getT := by
    unfold textQ
    simp
  have hx : (textQ ⟨1, h, -1, pa, qu, false⟩).2 = pa ++ (⟨#[]⟩ : ByteArray) := by
    apply bytes_ext
    unfold textQ tailT queryT
    simp [mkT]
  rw [hm, hx]
  clear hm hx
  unfold getT
  unfold Tg.val
  dsimp only
  go_enter Tryz.func29, Tryz.ntmps29
  go_wp2_with fail
  go_quiet (fail)
  go_wp2
  go_ret2
  exact ⟨rfl, by (repeat (first | (with_reducible refine below_drewN ?_ _) | (with_reducible refine below_drew ?_))); exact (Below.refl _ _).alloc (Nat.le_refl _) _⟩
set_option maxRecDepth 100000 in
set_option maxHeartbeats 4000000 in
theorem Text_1nq (h pa qu : ByteArray) (w : World) (hz : h.size ≤ 4194304 ∧ pa.size ≤ 4194304 ∧ qu.size ≤ 4194304) :
    Calls Tryz.prog 29 #[Tg.val ⟨1, h, -1, pa, qu, true⟩] w fun e w' => e = .returned (.tuple #[.string (textQ ⟨1, h, -1, pa, qu, true⟩).1, .string (textQ ⟨1, h, -1, pa, qu, true⟩).2]) ∧ Below w.heap.size w w' := by
  obtain ⟨zh, zp, zq⟩ := hz
  have hm : (textQ ⟨1, h, -1, pa, qu, true⟩).1 = getT := by
    unfold textQ
    simp
  have hx : (textQ ⟨1, h, -1, pa, qu, true⟩).2 = pa ++ ((⟨#[63]⟩ : ByteArray) ++ qu) := by
    apply bytes_ext
    unfold textQ tailT queryT
    simp [mkT]
  rw [hm, hx]
  clear hm hx
  unfold getT
  unfold Tg.val
  dsimp only
  go_enter Tryz.func29, Tryz.ntmps29
  go_wp2_with fail
  go_quiet (fail)
  go_wp2
  go_ret2
  exact ⟨rfl, by (repeat (first | (with_reducible refine below_drewN ?_ _) | (with_reducible refine below_drew ?_))); exact (Below.refl _ _).alloc (Nat.le_refl _) _⟩
set_option maxRecDepth 100000 in
set_option maxHeartbeats 4000000 in
theorem Text_1pn (h pa qu : ByteArray) (p : Int) (w : World) (hp : ¬ p = -1) (hp0 : -9223372036854775808 ≤ p) (hp1 : p ≤ 9223372036854775807) (hz : h.size ≤ 4194304 ∧ pa.size ≤ 4194304 ∧ qu.size ≤ 4194304) :
    Calls Tryz.prog 29 #[Tg.val ⟨1, h, p, pa, qu, false⟩] w fun e w' => e = .returned (.tuple #[.string (textQ ⟨1, h, p, pa, qu, false⟩).1, .string (textQ ⟨1, h, p, pa, qu, false⟩).2]) ∧ Below w.heap.size w w' := by
  obtain ⟨zh, zp, zq⟩ := hz
  have hm : (textQ ⟨1, h, p, pa, qu, false⟩).1 = getT := by
    unfold textQ
    simp
  have hx : (textQ ⟨1, h, p, pa, qu, false⟩).2 = pa ++ (⟨#[]⟩ : ByteArray) := by
    apply bytes_ext
    unfold textQ tailT queryT
    simp [mkT]
  rw [hm, hx]
  clear hm hx
  unfold getT
  have HD := Lib.hid (fun w => rDigits_any p w hp0 hp1)
  have hne : (p != -1) = true := by simpa using hp
  have zi : (itoaT p).size ≤ 4194304 := itoaT_small hp0 hp1
  generalize itoaT p = d at *
  unfold Tg.val
  dsimp only
  go_enter Tryz.func29, Tryz.ntmps29
  go_wp2_with fail
  refine (HD.out _).mono ?_
  rintro e w1 ⟨rfl, b1⟩
  have B1 : Below (w.heap.size + 1) (w.alloc (.cells #[.int .i64 1, .string h, .int .i64 p, .string pa, .string qu, .bool false] 29)) w1 := by simpa using b1
  obtain ⟨e0, _⟩ := box6 B1 0
  obtain ⟨e1, _⟩ := box6 B1 1
  obtain ⟨e2, _⟩ := box6 B1 2
  obtain ⟨e3, _⟩ := box6 B1 3
  obtain ⟨e4, _⟩ := box6 B1 4
  obtain ⟨e5, _⟩ := box6 B1 5
  have hbw := below_box B1
  clear b1 B1
  go_wp2_with fail
  go_quiet (fail)
  go_wp2
  go_ret2
  exact ⟨rfl, by (repeat (first | (with_reducible refine below_drewN ?_ _) | (with_reducible refine below_drew ?_))); exact hbw⟩
set_option maxRecDepth 100000 in
set_option maxHeartbeats 4000000 in
theorem Text_1pq (h pa qu : ByteArray) (p : Int) (w : World) (hp : ¬ p = -1) (hp0 : -9223372036854775808 ≤ p) (hp1 : p ≤ 9223372036854775807) (hz : h.size ≤ 4194304 ∧ pa.size ≤ 4194304 ∧ qu.size ≤ 4194304) :
    Calls Tryz.prog 29 #[Tg.val ⟨1, h, p, pa, qu, true⟩] w fun e w' => e = .returned (.tuple #[.string (textQ ⟨1, h, p, pa, qu, true⟩).1, .string (textQ ⟨1, h, p, pa, qu, true⟩).2]) ∧ Below w.heap.size w w' := by
  obtain ⟨zh, zp, zq⟩ := hz
  have hm : (textQ ⟨1, h, p, pa, qu, true⟩).1 = getT := by
    unfold textQ
    simp
  have hx : (textQ ⟨1, h, p, pa, qu, true⟩).2 = pa ++ ((⟨#[63]⟩ : ByteArray) ++ qu) := by
    apply bytes_ext
    unfold textQ tailT queryT
    simp [mkT]
  rw [hm, hx]
  clear hm hx
  unfold getT
  have HD := Lib.hid (fun w => rDigits_any p w hp0 hp1)
  have hne : (p != -1) = true := by simpa using hp
  have zi : (itoaT p).size ≤ 4194304 := itoaT_small hp0 hp1
  generalize itoaT p = d at *
  unfold Tg.val
  dsimp only
  go_enter Tryz.func29, Tryz.ntmps29
  go_wp2_with fail
  refine (HD.out _).mono ?_
  rintro e w1 ⟨rfl, b1⟩
  have B1 : Below (w.heap.size + 1) (w.alloc (.cells #[.int .i64 1, .string h, .int .i64 p, .string pa, .string qu, .bool true] 29)) w1 := by simpa using b1
  obtain ⟨e0, _⟩ := box6 B1 0
  obtain ⟨e1, _⟩ := box6 B1 1
  obtain ⟨e2, _⟩ := box6 B1 2
  obtain ⟨e3, _⟩ := box6 B1 3
  obtain ⟨e4, _⟩ := box6 B1 4
  obtain ⟨e5, _⟩ := box6 B1 5
  have hbw := below_box B1
  clear b1 B1
  go_wp2_with fail
  go_quiet (fail)
  go_wp2
  go_ret2
  exact ⟨rfl, by (repeat (first | (with_reducible refine below_drewN ?_ _) | (with_reducible refine below_drew ?_))); exact hbw⟩
set_option maxRecDepth 100000 in
set_option maxHeartbeats 4000000 in
theorem Text_2nn (h pa qu : ByteArray) (w : World) (hz : h.size ≤ 4194304 ∧ pa.size ≤ 4194304 ∧ qu.size ≤ 4194304) :
    Calls Tryz.prog 29 #[Tg.val ⟨2, h, -1, pa, qu, false⟩] w fun e w' => e = .returned (.tuple #[.string (textQ ⟨2, h, -1, pa, qu, false⟩).1, .string (textQ ⟨2, h, -1, pa, qu, false⟩).2]) ∧ Below w.heap.size w w' := by
  obtain ⟨zh, zp, zq⟩ := hz
  have hm : (textQ ⟨2, h, -1, pa, qu, false⟩).1 = getT := by
    unfold textQ
    simp
  have hx : (textQ ⟨2, h, -1, pa, qu, false⟩).2 = (⟨#[104, 116, 116, 112, 58, 47, 47]⟩ : ByteArray) ++ h ++ (⟨#[]⟩ : ByteArray) ++ pa ++ (⟨#[]⟩ : ByteArray) := by
    apply bytes_ext
    unfold textQ tailT queryT
    simp [mkT, httpT, portT]
  rw [hm, hx]
  clear hm hx
  unfold getT
  unfold Tg.val
  dsimp only
  go_enter Tryz.func29, Tryz.ntmps29
  go_wp2_with fail
  go_quiet (fail)
  go_wp2
  go_ret2
  exact ⟨rfl, by (repeat (first | (with_reducible refine below_drewN ?_ _) | (with_reducible refine below_drew ?_))); exact (Below.refl _ _).alloc (Nat.le_refl _) _⟩
set_option maxRecDepth 100000 in
set_option maxHeartbeats 4000000 in
theorem Text_2nq (h pa qu : ByteArray) (w : World) (hz : h.size ≤ 4194304 ∧ pa.size ≤ 4194304 ∧ qu.size ≤ 4194304) :
    Calls Tryz.prog 29 #[Tg.val ⟨2, h, -1, pa, qu, true⟩] w fun e w' => e = .returned (.tuple #[.string (textQ ⟨2, h, -1, pa, qu, true⟩).1, .string (textQ ⟨2, h, -1, pa, qu, true⟩).2]) ∧ Below w.heap.size w w' := by
  obtain ⟨zh, zp, zq⟩ := hz
  have hm : (textQ ⟨2, h, -1, pa, qu, true⟩).1 = getT := by
    unfold textQ
    simp
  have hx : (textQ ⟨2, h, -1, pa, qu, true⟩).2 = (⟨#[104, 116, 116, 112, 58, 47, 47]⟩ : ByteArray) ++ h ++ (⟨#[]⟩ : ByteArray) ++ pa ++ ((⟨#[63]⟩ : ByteArray) ++ qu) := by
    apply bytes_ext
    unfold textQ tailT queryT
    simp [mkT, httpT, portT]
  rw [hm, hx]
  clear hm hx
  unfold getT
  unfold Tg.val
  dsimp only
  go_enter Tryz.func29, Tryz.ntmps29
  go_wp2_with fail
  go_quiet (fail)
  go_wp2
  go_ret2
  exact ⟨rfl, by (repeat (first | (with_reducible refine below_drewN ?_ _) | (with_reducible refine below_drew ?_))); exact (Below.refl _ _).alloc (Nat.le_refl _) _⟩
set_option maxRecDepth 100000 in
set_option maxHeartbeats 4000000 in
theorem Text_2pn (h pa qu : ByteArray) (p : Int) (w : World) (hp : ¬ p = -1) (hp0 : -9223372036854775808 ≤ p) (hp1 : p ≤ 9223372036854775807) (hz : h.size ≤ 4194304 ∧ pa.size ≤ 4194304 ∧ qu.size ≤ 4194304) :
    Calls Tryz.prog 29 #[Tg.val ⟨2, h, p, pa, qu, false⟩] w fun e w' => e = .returned (.tuple #[.string (textQ ⟨2, h, p, pa, qu, false⟩).1, .string (textQ ⟨2, h, p, pa, qu, false⟩).2]) ∧ Below w.heap.size w w' := by
  obtain ⟨zh, zp, zq⟩ := hz
  have hm : (textQ ⟨2, h, p, pa, qu, false⟩).1 = getT := by
    unfold textQ
    simp
  have hx : (textQ ⟨2, h, p, pa, qu, false⟩).2 = (⟨#[104, 116, 116, 112, 58, 47, 47]⟩ : ByteArray) ++ h ++ ((⟨#[58]⟩ : ByteArray) ++ itoaT p) ++ pa ++ (⟨#[]⟩ : ByteArray) := by
    apply bytes_ext
    unfold textQ tailT queryT
    simp [mkT, httpT, portT, itoaT, hp]
  rw [hm, hx]
  clear hm hx
  unfold getT
  have HD := Lib.hid (fun w => rDigits_any p w hp0 hp1)
  have hne : (p != -1) = true := by simpa using hp
  have zi : (itoaT p).size ≤ 4194304 := itoaT_small hp0 hp1
  generalize itoaT p = d at *
  unfold Tg.val
  dsimp only
  go_enter Tryz.func29, Tryz.ntmps29
  go_wp2_with fail
  refine (HD.out _).mono ?_
  rintro e w1 ⟨rfl, b1⟩
  have B1 : Below (w.heap.size + 1) (w.alloc (.cells #[.int .i64 2, .string h, .int .i64 p, .string pa, .string qu, .bool false] 29)) w1 := by simpa using b1
  obtain ⟨e0, _⟩ := box6 B1 0
  obtain ⟨e1, _⟩ := box6 B1 1
  obtain ⟨e2, _⟩ := box6 B1 2
  obtain ⟨e3, _⟩ := box6 B1 3
  obtain ⟨e4, _⟩ := box6 B1 4
  obtain ⟨e5, _⟩ := box6 B1 5
  have hbw := below_box B1
  clear b1 B1
  go_wp2_with fail
  go_quiet (fail)
  go_wp2
  go_ret2
  exact ⟨rfl, by (repeat (first | (with_reducible refine below_drewN ?_ _) | (with_reducible refine below_drew ?_))); exact hbw⟩
set_option maxRecDepth 100000 in
set_option maxHeartbeats 4000000 in
theorem Text_2pq (h pa qu : ByteArray) (p : Int) (w : World) (hp : ¬ p = -1) (hp0 : -9223372036854775808 ≤ p) (hp1 : p ≤ 9223372036854775807) (hz : h.size ≤ 4194304 ∧ pa.size ≤ 4194304 ∧ qu.size ≤ 4194304) :
    Calls Tryz.prog 29 #[Tg.val ⟨2, h, p, pa, qu, true⟩] w fun e w' => e = .returned (.tuple #[.string (textQ ⟨2, h, p, pa, qu, true⟩).1, .string (textQ ⟨2, h, p, pa, qu, true⟩).2]) ∧ Below w.heap.size w w' := by
  obtain ⟨zh, zp, zq⟩ := hz
  have hm : (textQ ⟨2, h, p, pa, qu, true⟩).1 = getT := by
    unfold textQ
    simp
  have hx : (textQ ⟨2, h, p, pa, qu, true⟩).2 = (⟨#[104, 116, 116, 112, 58, 47, 47]⟩ : ByteArray) ++ h ++ ((⟨#[58]⟩ : ByteArray) ++ itoaT p) ++ pa ++ ((⟨#[63]⟩ : ByteArray) ++ qu) := by
    apply bytes_ext
    unfold textQ tailT queryT
    simp [mkT, httpT, portT, itoaT, hp]
  rw [hm, hx]
  clear hm hx
  unfold getT
  have HD := Lib.hid (fun w => rDigits_any p w hp0 hp1)
  have hne : (p != -1) = true := by simpa using hp
  have zi : (itoaT p).size ≤ 4194304 := itoaT_small hp0 hp1
  generalize itoaT p = d at *
  unfold Tg.val
  dsimp only
  go_enter Tryz.func29, Tryz.ntmps29
  go_wp2_with fail
  refine (HD.out _).mono ?_
  rintro e w1 ⟨rfl, b1⟩
  have B1 : Below (w.heap.size + 1) (w.alloc (.cells #[.int .i64 2, .string h, .int .i64 p, .string pa, .string qu, .bool true] 29)) w1 := by simpa using b1
  obtain ⟨e0, _⟩ := box6 B1 0
  obtain ⟨e1, _⟩ := box6 B1 1
  obtain ⟨e2, _⟩ := box6 B1 2
  obtain ⟨e3, _⟩ := box6 B1 3
  obtain ⟨e4, _⟩ := box6 B1 4
  obtain ⟨e5, _⟩ := box6 B1 5
  have hbw := below_box B1
  clear b1 B1
  go_wp2_with fail
  go_quiet (fail)
  go_wp2
  go_ret2
  exact ⟨rfl, by (repeat (first | (with_reducible refine below_drewN ?_ _) | (with_reducible refine below_drew ?_))); exact hbw⟩
set_option maxRecDepth 100000 in
set_option maxHeartbeats 4000000 in
theorem Text_3nn (h pa qu : ByteArray) (w : World) (hz : h.size ≤ 4194304 ∧ pa.size ≤ 4194304 ∧ qu.size ≤ 4194304) :
    Calls Tryz.prog 29 #[Tg.val ⟨3, h, -1, pa, qu, false⟩] w fun e w' => e = .returned (.tuple #[.string (textQ ⟨3, h, -1, pa, qu, false⟩).1, .string (textQ ⟨3, h, -1, pa, qu, false⟩).2]) ∧ Below w.heap.size w w' := by
  obtain ⟨zh, zp, zq⟩ := hz
  have hm : (textQ ⟨3, h, -1, pa, qu, false⟩).1 = connT := by
    unfold textQ
    simp
  have hx : (textQ ⟨3, h, -1, pa, qu, false⟩).2 = h ++ (⟨#[]⟩ : ByteArray) := by
    apply bytes_ext
    unfold textQ tailT queryT
    simp [mkT, portT]
  rw [hm, hx]
  clear hm hx
  unfold connT
  unfold Tg.val
  dsimp only
  go_enter Tryz.func29, Tryz.ntmps29
  go_wp2_with fail
  go_quiet (fail)
  go_wp2
  go_ret2
  exact ⟨rfl, by (repeat (first | (with_reducible refine below_drewN ?_ _) | (with_reducible refine below_drew ?_))); exact (Below.refl _ _).alloc (Nat.le_refl _) _⟩
set_option maxRecDepth 100000 in
set_option maxHeartbeats 4000000 in
theorem Text_3nq (h pa qu : ByteArray) (w : World) (hz : h.size ≤ 4194304 ∧ pa.size ≤ 4194304 ∧ qu.size ≤ 4194304) :
    Calls Tryz.prog 29 #[Tg.val ⟨3, h, -1, pa, qu, true⟩] w fun e w' => e = .returned (.tuple #[.string (textQ ⟨3, h, -1, pa, qu, true⟩).1, .string (textQ ⟨3, h, -1, pa, qu, true⟩).2]) ∧ Below w.heap.size w w' := by
  obtain ⟨zh, zp, zq⟩ := hz
  have hm : (textQ ⟨3, h, -1, pa, qu, true⟩).1 = connT := by
    unfold textQ
    simp
  have hx : (textQ ⟨3, h, -1, pa, qu, true⟩).2 = h ++ (⟨#[]⟩ : ByteArray) := by
    apply bytes_ext
    unfold textQ tailT queryT
    simp [mkT, portT]
  rw [hm, hx]
  clear hm hx
  unfold connT
  unfold Tg.val
  dsimp only
  go_enter Tryz.func29, Tryz.ntmps29
  go_wp2_with fail
  go_quiet (fail)
  go_wp2
  go_ret2
  exact ⟨rfl, by (repeat (first | (with_reducible refine below_drewN ?_ _) | (with_reducible refine below_drew ?_))); exact (Below.refl _ _).alloc (Nat.le_refl _) _⟩
set_option maxRecDepth 100000 in
set_option maxHeartbeats 4000000 in
theorem Text_3pn (h pa qu : ByteArray) (p : Int) (w : World) (hp : ¬ p = -1) (hp0 : -9223372036854775808 ≤ p) (hp1 : p ≤ 9223372036854775807) (hz : h.size ≤ 4194304 ∧ pa.size ≤ 4194304 ∧ qu.size ≤ 4194304) :
    Calls Tryz.prog 29 #[Tg.val ⟨3, h, p, pa, qu, false⟩] w fun e w' => e = .returned (.tuple #[.string (textQ ⟨3, h, p, pa, qu, false⟩).1, .string (textQ ⟨3, h, p, pa, qu, false⟩).2]) ∧ Below w.heap.size w w' := by
  obtain ⟨zh, zp, zq⟩ := hz
  have hm : (textQ ⟨3, h, p, pa, qu, false⟩).1 = connT := by
    unfold textQ
    simp
  have hx : (textQ ⟨3, h, p, pa, qu, false⟩).2 = h ++ ((⟨#[58]⟩ : ByteArray) ++ itoaT p) := by
    apply bytes_ext
    unfold textQ tailT queryT
    simp [mkT, portT, itoaT, hp]
  rw [hm, hx]
  clear hm hx
  unfold connT
  have HD := Lib.hid (fun w => rDigits_any p w hp0 hp1)
  have hne : (p != -1) = true := by simpa using hp
  have zi : (itoaT p).size ≤ 4194304 := itoaT_small hp0 hp1
  generalize itoaT p = d at *
  unfold Tg.val
  dsimp only
  go_enter Tryz.func29, Tryz.ntmps29
  go_wp2_with fail
  refine (HD.out _).mono ?_
  rintro e w1 ⟨rfl, b1⟩
  have B1 : Below (w.heap.size + 1) (w.alloc (.cells #[.int .i64 3, .string h, .int .i64 p, .string pa, .string qu, .bool false] 29)) w1 := by simpa using b1
  obtain ⟨e0, _⟩ := box6 B1 0
  obtain ⟨e1, _⟩ := box6 B1 1
  obtain ⟨e2, _⟩ := box6 B1 2
  obtain ⟨e3, _⟩ := box6 B1 3
  obtain ⟨e4, _⟩ := box6 B1 4
  obtain ⟨e5, _⟩ := box6 B1 5
  have hbw := below_box B1
  clear b1 B1
  go_wp2_with fail
  go_quiet (fail)
  go_wp2
  go_ret2
  exact ⟨rfl, by (repeat (first | (with_reducible refine below_drewN ?_ _) | (with_reducible refine below_drew ?_))); exact hbw⟩
set_option maxRecDepth 100000 in
set_option maxHeartbeats 4000000 in
theorem Text_3pq (h pa qu : ByteArray) (p : Int) (w : World) (hp : ¬ p = -1) (hp0 : -9223372036854775808 ≤ p) (hp1 : p ≤ 9223372036854775807) (hz : h.size ≤ 4194304 ∧ pa.size ≤ 4194304 ∧ qu.size ≤ 4194304) :
    Calls Tryz.prog 29 #[Tg.val ⟨3, h, p, pa, qu, true⟩] w fun e w' => e = .returned (.tuple #[.string (textQ ⟨3, h, p, pa, qu, true⟩).1, .string (textQ ⟨3, h, p, pa, qu, true⟩).2]) ∧ Below w.heap.size w w' := by
  obtain ⟨zh, zp, zq⟩ := hz
  have hm : (textQ ⟨3, h, p, pa, qu, true⟩).1 = connT := by
    unfold textQ
    simp
  have hx : (textQ ⟨3, h, p, pa, qu, true⟩).2 = h ++ ((⟨#[58]⟩ : ByteArray) ++ itoaT p) := by
    apply bytes_ext
    unfold textQ tailT queryT
    simp [mkT, portT, itoaT, hp]
  rw [hm, hx]
  clear hm hx
  unfold connT
  have HD := Lib.hid (fun w => rDigits_any p w hp0 hp1)
  have hne : (p != -1) = true := by simpa using hp
  have zi : (itoaT p).size ≤ 4194304 := itoaT_small hp0 hp1
  generalize itoaT p = d at *
  unfold Tg.val
  dsimp only
  go_enter Tryz.func29, Tryz.ntmps29
  go_wp2_with fail
  refine (HD.out _).mono ?_
  rintro e w1 ⟨rfl, b1⟩
  have B1 : Below (w.heap.size + 1) (w.alloc (.cells #[.int .i64 3, .string h, .int .i64 p, .string pa, .string qu, .bool true] 29)) w1 := by simpa using b1
  obtain ⟨e0, _⟩ := box6 B1 0
  obtain ⟨e1, _⟩ := box6 B1 1
  obtain ⟨e2, _⟩ := box6 B1 2
  obtain ⟨e3, _⟩ := box6 B1 3
  obtain ⟨e4, _⟩ := box6 B1 4
  obtain ⟨e5, _⟩ := box6 B1 5
  have hbw := below_box B1
  clear b1 B1
  go_wp2_with fail
  go_quiet (fail)
  go_wp2
  go_ret2
  exact ⟨rfl, by (repeat (first | (with_reducible refine below_drewN ?_ _) | (with_reducible refine below_drew ?_))); exact hbw⟩
set_option maxRecDepth 100000 in
set_option maxHeartbeats 4000000 in
theorem Text_0nn (f : Int) (h pa qu : ByteArray) (w : World) (hf : ¬ f = 1 ∧ ¬ f = 2 ∧ ¬ f = 3) (hz : h.size ≤ 4194304 ∧ pa.size ≤ 4194304 ∧ qu.size ≤ 4194304) :
    Calls Tryz.prog 29 #[Tg.val ⟨f, h, -1, pa, qu, false⟩] w fun e w' => e = .returned (.tuple #[.string (textQ ⟨f, h, -1, pa, qu, false⟩).1, .string (textQ ⟨f, h, -1, pa, qu, false⟩).2]) ∧ Below w.heap.size w w' := by
  obtain ⟨zh, zp, zq⟩ := hz
  have hm : (textQ ⟨f, h, -1, pa, qu, false⟩).1 = optT := by
    unfold textQ
    simp [hf.1, hf.2.1, hf.2.2]
  have hx : (textQ ⟨f, h, -1, pa, qu, false⟩).2 = (⟨#[42]⟩ : ByteArray) := by
    apply bytes_ext
    unfold textQ tailT queryT
    simp [hf.1, hf.2.1, hf.2.2, starT]
  rw [hm, hx]
  clear hm hx
  unfold optT
  have f1 : (f == 1) = false := by simpa using hf.1
  have f2 : (f == 2) = false := by simpa using hf.2.1
  have f3 : (f == 3) = false := by simpa using hf.2.2
  clear hf
  unfold Tg.val
  dsimp only
  go_enter Tryz.func29, Tryz.ntmps29
  go_wp2_with fail
  go_ret2
  exact ⟨rfl, by (repeat (first | (with_reducible refine below_drewN ?_ _) | (with_reducible refine below_drew ?_))); exact (Below.refl _ _).alloc (Nat.le_refl _) _⟩
set_option maxRecDepth 100000 in
set_option maxHeartbeats 4000000 in
theorem Text_0nq (f : Int) (h pa qu : ByteArray) (w : World) (hf : ¬ f = 1 ∧ ¬ f = 2 ∧ ¬ f = 3) (hz : h.size ≤ 4194304 ∧ pa.size ≤ 4194304 ∧ qu.size ≤ 4194304) :
    Calls Tryz.prog 29 #[Tg.val ⟨f, h, -1, pa, qu, true⟩] w fun e w' => e = .returned (.tuple #[.string (textQ ⟨f, h, -1, pa, qu, true⟩).1, .string (textQ ⟨f, h, -1, pa, qu, true⟩).2]) ∧ Below w.heap.size w w' := by
  obtain ⟨zh, zp, zq⟩ := hz
  have hm : (textQ ⟨f, h, -1, pa, qu, true⟩).1 = optT := by
    unfold textQ
    simp [hf.1, hf.2.1, hf.2.2]
  have hx : (textQ ⟨f, h, -1, pa, qu, true⟩).2 = (⟨#[42]⟩ : ByteArray) := by
    apply bytes_ext
    unfold textQ tailT queryT
    simp [hf.1, hf.2.1, hf.2.2, starT]
  rw [hm, hx]
  clear hm hx
  unfold optT
  have f1 : (f == 1) = false := by simpa using hf.1
  have f2 : (f == 2) = false := by simpa using hf.2.1
  have f3 : (f == 3) = false := by simpa using hf.2.2
  clear hf
  unfold Tg.val
  dsimp only
  go_enter Tryz.func29, Tryz.ntmps29
  go_wp2_with fail
  go_ret2
  exact ⟨rfl, by (repeat (first | (with_reducible refine below_drewN ?_ _) | (with_reducible refine below_drew ?_))); exact (Below.refl _ _).alloc (Nat.le_refl _) _⟩
set_option maxRecDepth 100000 in
set_option maxHeartbeats 4000000 in
theorem Text_0pn (f : Int) (h pa qu : ByteArray) (p : Int) (w : World) (hf : ¬ f = 1 ∧ ¬ f = 2 ∧ ¬ f = 3) (hp : ¬ p = -1) (hp0 : -9223372036854775808 ≤ p) (hp1 : p ≤ 9223372036854775807) (hz : h.size ≤ 4194304 ∧ pa.size ≤ 4194304 ∧ qu.size ≤ 4194304) :
    Calls Tryz.prog 29 #[Tg.val ⟨f, h, p, pa, qu, false⟩] w fun e w' => e = .returned (.tuple #[.string (textQ ⟨f, h, p, pa, qu, false⟩).1, .string (textQ ⟨f, h, p, pa, qu, false⟩).2]) ∧ Below w.heap.size w w' := by
  obtain ⟨zh, zp, zq⟩ := hz
  have hm : (textQ ⟨f, h, p, pa, qu, false⟩).1 = optT := by
    unfold textQ
    simp [hf.1, hf.2.1, hf.2.2]
  have hx : (textQ ⟨f, h, p, pa, qu, false⟩).2 = (⟨#[42]⟩ : ByteArray) := by
    apply bytes_ext
    unfold textQ tailT queryT
    simp [hf.1, hf.2.1, hf.2.2, starT]
  rw [hm, hx]
  clear hm hx
  unfold optT
  have f1 : (f == 1) = false := by simpa using hf.1
  have f2 : (f == 2) = false := by simpa using hf.2.1
  have f3 : (f == 3) = false := by simpa using hf.2.2
  clear hf
  have HD := Lib.hid (fun w => rDigits_any p w hp0 hp1)
  have hne : (p != -1) = true := by simpa using hp
  have zi : (itoaT p).size ≤ 4194304 := itoaT_small hp0 hp1
  generalize itoaT p = d at *
  unfold Tg.val
  dsimp only
  go_enter Tryz.func29, Tryz.ntmps29
  go_wp2_with fail
  refine (HD.out _).mono ?_
  rintro e w1 ⟨rfl, b1⟩
  have B1 : Below (w.heap.size + 1) (w.alloc (.cells #[.int .i64 f, .string h, .int .i64 p, .string pa, .string qu, .bool false] 29)) w1 := by simpa using b1
  obtain ⟨e0, _⟩ := box6 B1 0
  obtain ⟨e1, _⟩ := box6 B1 1
  obtain ⟨e2, _⟩ := box6 B1 2
  obtain ⟨e3, _⟩ := box6 B1 3
  obtain ⟨e4, _⟩ := box6 B1 4
  obtain ⟨e5, _⟩ := box6 B1 5
  have hbw := below_box B1
  clear b1 B1
  go_wp2_with fail
  go_ret2
  exact ⟨rfl, by (repeat (first | (with_reducible refine below_drewN ?_ _) | (with_reducible refine below_drew ?_))); exact hbw⟩
set_option maxRecDepth 100000 in
set_option maxHeartbeats 4000000 in
theorem Text_0pq (f : Int) (h pa qu : ByteArray) (p : Int) (w : World) (hf : ¬ f = 1 ∧ ¬ f = 2 ∧ ¬ f = 3) (hp : ¬ p = -1) (hp0 : -9223372036854775808 ≤ p) (hp1 : p ≤ 9223372036854775807) (hz : h.size ≤ 4194304 ∧ pa.size ≤ 4194304 ∧ qu.size ≤ 4194304) :
    Calls Tryz.prog 29 #[Tg.val ⟨f, h, p, pa, qu, true⟩] w fun e w' => e = .returned (.tuple #[.string (textQ ⟨f, h, p, pa, qu, true⟩).1, .string (textQ ⟨f, h, p, pa, qu, true⟩).2]) ∧ Below w.heap.size w w' := by
  obtain ⟨zh, zp, zq⟩ := hz
  have hm : (textQ ⟨f, h, p, pa, qu, true⟩).1 = optT := by
    unfold textQ
    simp [hf.1, hf.2.1, hf.2.2]
  have hx : (textQ ⟨f, h, p, pa, qu, true⟩).2 = (⟨#[42]⟩ : ByteArray) := by
    apply bytes_ext
    unfold textQ tailT queryT
    simp [hf.1, hf.2.1, hf.2.2, starT]
  rw [hm, hx]
  clear hm hx
  unfold optT
  have f1 : (f == 1) = false := by simpa using hf.1
  have f2 : (f == 2) = false := by simpa using hf.2.1
  have f3 : (f == 3) = false := by simpa using hf.2.2
  clear hf
  have HD := Lib.hid (fun w => rDigits_any p w hp0 hp1)
  have hne : (p != -1) = true := by simpa using hp
  have zi : (itoaT p).size ≤ 4194304 := itoaT_small hp0 hp1
  generalize itoaT p = d at *
  unfold Tg.val
  dsimp only
  go_enter Tryz.func29, Tryz.ntmps29
  go_wp2_with fail
  refine (HD.out _).mono ?_
  rintro e w1 ⟨rfl, b1⟩
  have B1 : Below (w.heap.size + 1) (w.alloc (.cells #[.int .i64 f, .string h, .int .i64 p, .string pa, .string qu, .bool true] 29)) w1 := by simpa using b1
  obtain ⟨e0, _⟩ := box6 B1 0
  obtain ⟨e1, _⟩ := box6 B1 1
  obtain ⟨e2, _⟩ := box6 B1 2
  obtain ⟨e3, _⟩ := box6 B1 3
  obtain ⟨e4, _⟩ := box6 B1 4
  obtain ⟨e5, _⟩ := box6 B1 5
  have hbw := below_box B1
  clear b1 B1
  go_wp2_with fail
  go_ret2
  exact ⟨rfl, by (repeat (first | (with_reducible refine below_drewN ?_ _) | (with_reducible refine below_drew ?_))); exact hbw⟩
end Go.Proofs.YtjlnbjlhlglneaaGreatDoor
