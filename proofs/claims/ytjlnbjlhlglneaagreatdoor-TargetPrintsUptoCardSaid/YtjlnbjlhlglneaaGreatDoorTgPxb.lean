/-
  Printing any target of form 2: the walk of the program's function.
-/
import Derived.Test.YtjlnbjlhlglneaaGreatDoorTgRp
import Derived.Test.YtjlnbjlhlglneaaGreatDoorTgEq
import Derived.Test.YtjlnbjlhlglneaaGreatDoorTgTx
namespace Go.Proofs.YtjlnbjlhlglneaaGreatDoor
open Go.RowKit Go.Shelf Go.Lib

set_option maxRecDepth 100000 in
set_option maxHeartbeats 4000000 in
theorem Printx_2nn (h pa qu : ByteArray) (w : World) (hg : Glob w) (hs : (textP ⟨2, h, -1, pa, qu, false⟩).2.size ≤ 4194304) :
    Calls Tryz.prog 10 #[Tg.val ⟨2, h, -1, pa, qu, false⟩] w fun e w' => e = .returned (.tuple #[.string (printWith (textP ⟨2, h, -1, pa, qu, false⟩) ⟨2, h, -1, pa, qu, false⟩).1, .int .i64 (printWith (textP ⟨2, h, -1, pa, qu, false⟩) ⟨2, h, -1, pa, qu, false⟩).2]) ∧ Below w.heap.size w w' := by
  have hm : (textP ⟨2, h, -1, pa, qu, false⟩).1 = getT := by
    unfold textP
    simp
  have hx : (textP ⟨2, h, -1, pa, qu, false⟩).2 = (⟨#[104, 116, 116, 112, 58, 47, 47]⟩ : ByteArray) ++ h ++ pa := by
    apply bytes_ext
    unfold textP tailT queryT
    simp [mkT, httpT, portT]
  have he : textP ⟨2, h, -1, pa, qu, false⟩ = (getT, (⟨#[104, 116, 116, 112, 58, 47, 47]⟩ : ByteArray) ++ h ++ pa) := Prod.ext hm hx
  rw [hx] at hs
  rw [he]
  clear hm hx he
  have HP := Lib.hid (fun w hg => Parse_any getT ((⟨#[104, 116, 116, 112, 58, 47, 47]⟩ : ByteArray) ++ h ++ pa) w hs hg)
  have HY := Lib.hid (fun h1 h2 => print_yes (x := (getT, (⟨#[104, 116, 116, 112, 58, 47, 47]⟩ : ByteArray) ++ h ++ pa)) (t := ⟨2, h, -1, pa, qu, false⟩) h1 h2)
  have HN := Lib.hid (fun h1 => print_no (x := (getT, (⟨#[104, 116, 116, 112, 58, 47, 47]⟩ : ByteArray) ++ h ++ pa)) (t := ⟨2, h, -1, pa, qu, false⟩) h1)
  dsimp only at HY HN
  generalize parseT getT ((⟨#[104, 116, 116, 112, 58, 47, 47]⟩ : ByteArray) ++ h ++ pa) = r at *
  obtain ⟨⟨f0, h0, p0, pa0, qu0, hq0⟩, i0, er⟩ := r
  unfold tgVal Tg.val at HP
  dsimp only at HP HY HN
  unfold getT at *
  simp only [ByteArray.size_append] at hs
  have zh : (h).size ≤ 4194304 := by omega
  have zp : (pa).size ≤ 4194304 := by omega
  have HPT := Lib.hid (fun (w : World) => eq_tgt ⟨f0, h0, p0, pa0, qu0, hq0⟩ ⟨2, h, -1, pa, qu, false⟩ w)
  unfold Tg.val at HPT
  dsimp only at HPT
  clear hs
  unfold Tg.val
  dsimp only
  go_enter Tryz.func10, Tryz.ntmps10
  go_wp2_with fail
  have hg1 : Glob (w.alloc (.cells #[.int .i64 2, .string h, .int .i64 (-1), .string pa, .string qu, .bool false] 23)) := hg.alloc _
  refine (HP.out _ hg1).mono ?_
  rintro e w2 ⟨rfl, b3⟩
  have B0 : Below (w.heap.size + 1) (w.alloc (.cells #[.int .i64 2, .string h, .int .i64 (-1), .string pa, .string qu, .bool false] 23)) w2 := by simpa using b3
  obtain ⟨c0, _⟩ := box6 B0 0
  obtain ⟨c1, _⟩ := box6 B0 1
  obtain ⟨c2, _⟩ := box6 B0 2
  obtain ⟨c3, _⟩ := box6 B0 3
  obtain ⟨c4, _⟩ := box6 B0 4
  obtain ⟨c5, _⟩ := box6 B0 5
  have hsz := box_size B0
  have hbw := below_box B0
  clear b3 B0
  by_cases her : er = 0
  · subst her
    by_cases hsm : (⟨f0, h0, p0, pa0, qu0, hq0⟩ : Tg) = ⟨2, h, -1, pa, qu, false⟩
    · have HB := Lib.hid (HY.out rfl hsm)
      have HE : ∀ w : World, (Op.equalIn 10000 23 (.agg #[.int .i64 f0, .string h0, .int .i64 p0, .string pa0, .string qu0, .bool hq0]) (.agg #[.int .i64 2, .string h, .int .i64 (-1), .string pa, .string qu, .bool false])).run Tryz.prog w = .ok true w := fun w => (HPT.out w).trans (by rw [sameTg_iff.2 hsm])
      clear hsm HPT HY HN
      go_wp2
      go_ret2
      exact ⟨by rw [HB.out]; rfl, by (repeat (first | (with_reducible refine Below.setCell ?_ (by simp) _) | (with_reducible refine Below.alloc ?_ (by omega) _))); exact hbw⟩
    · have HB := Lib.hid (HN.out (.inr hsm))
      have HE : ∀ w : World, (Op.equalIn 10000 23 (.agg #[.int .i64 f0, .string h0, .int .i64 p0, .string pa0, .string qu0, .bool hq0]) (.agg #[.int .i64 2, .string h, .int .i64 (-1), .string pa, .string qu, .bool false])).run Tryz.prog w = .ok false w := fun w => (HPT.out w).trans (by rw [Bool.eq_false_iff.2 (fun h => hsm (sameTg_iff.1 h))])
      clear hsm HPT HY HN
      go_wp2
      go_ret2
      exact ⟨by rw [HB.out]; rfl, by (repeat (first | (with_reducible refine Below.setCell ?_ (by simp) _) | (with_reducible refine Below.alloc ?_ (by omega) _))); exact hbw⟩
  · have HB := Lib.hid (HN.out (.inl her))
    have hne2 : (er != 0) = true := by simpa using her
    clear her HPT HY HN
    go_wp2
    go_ret2
    exact ⟨by rw [HB.out]; rfl, by (repeat (first | (with_reducible refine Below.setCell ?_ (by simp) _) | (with_reducible refine Below.alloc ?_ (by omega) _))); exact hbw⟩
set_option maxRecDepth 100000 in
set_option maxHeartbeats 4000000 in
theorem Printx_2nq (h pa qu : ByteArray) (w : World) (hg : Glob w) (hs : (textP ⟨2, h, -1, pa, qu, true⟩).2.size ≤ 4194304) :
    Calls Tryz.prog 10 #[Tg.val ⟨2, h, -1, pa, qu, true⟩] w fun e w' => e = .returned (.tuple #[.string (printWith (textP ⟨2, h, -1, pa, qu, true⟩) ⟨2, h, -1, pa, qu, true⟩).1, .int .i64 (printWith (textP ⟨2, h, -1, pa, qu, true⟩) ⟨2, h, -1, pa, qu, true⟩).2]) ∧ Below w.heap.size w w' := by
  have hm : (textP ⟨2, h, -1, pa, qu, true⟩).1 = getT := by
    unfold textP
    simp
  have hx : (textP ⟨2, h, -1, pa, qu, true⟩).2 = (⟨#[104, 116, 116, 112, 58, 47, 47]⟩ : ByteArray) ++ h ++ pa ++ ((⟨#[63]⟩ : ByteArray) ++ qu) := by
    apply bytes_ext
    unfold textP tailT queryT
    simp [mkT, httpT, portT]
  have he : textP ⟨2, h, -1, pa, qu, true⟩ = (getT, (⟨#[104, 116, 116, 112, 58, 47, 47]⟩ : ByteArray) ++ h ++ pa ++ ((⟨#[63]⟩ : ByteArray) ++ qu)) := Prod.ext hm hx
  rw [hx] at hs
  rw [he]
  clear hm hx he
  have HP := Lib.hid (fun w hg => Parse_any getT ((⟨#[104, 116, 116, 112, 58, 47, 47]⟩ : ByteArray) ++ h ++ pa ++ ((⟨#[63]⟩ : ByteArray) ++ qu)) w hs hg)
  have HY := Lib.hid (fun h1 h2 => print_yes (x := (getT, (⟨#[104, 116, 116, 112, 58, 47, 47]⟩ : ByteArray) ++ h ++ pa ++ ((⟨#[63]⟩ : ByteArray) ++ qu))) (t := ⟨2, h, -1, pa, qu, true⟩) h1 h2)
  have HN := Lib.hid (fun h1 => print_no (x := (getT, (⟨#[104, 116, 116, 112, 58, 47, 47]⟩ : ByteArray) ++ h ++ pa ++ ((⟨#[63]⟩ : ByteArray) ++ qu))) (t := ⟨2, h, -1, pa, qu, true⟩) h1)
  dsimp only at HY HN
  generalize parseT getT ((⟨#[104, 116, 116, 112, 58, 47, 47]⟩ : ByteArray) ++ h ++ pa ++ ((⟨#[63]⟩ : ByteArray) ++ qu)) = r at *
  obtain ⟨⟨f0, h0, p0, pa0, qu0, hq0⟩, i0, er⟩ := r
  unfold tgVal Tg.val at HP
  dsimp only at HP HY HN
  unfold getT at *
  simp only [ByteArray.size_append] at hs
  have zh : (h).size ≤ 4194304 := by omega
  have zp : (pa).size ≤ 4194304 := by omega
  have zq : (qu).size ≤ 4194304 := by omega
  have HPT := Lib.hid (fun (w : World) => eq_tgt ⟨f0, h0, p0, pa0, qu0, hq0⟩ ⟨2, h, -1, pa, qu, true⟩ w)
  unfold Tg.val at HPT
  dsimp only at HPT
  clear hs
  unfold Tg.val
  dsimp only
  go_enter Tryz.func10, Tryz.ntmps10
  go_wp2_with fail
  have hg1 : Glob (w.alloc (.cells #[.int .i64 2, .string h, .int .i64 (-1), .string pa, .string qu, .bool true] 23)) := hg.alloc _
  refine (HP.out _ hg1).mono ?_
  rintro e w2 ⟨rfl, b3⟩
  have B0 : Below (w.heap.size + 1) (w.alloc (.cells #[.int .i64 2, .string h, .int .i64 (-1), .string pa, .string qu, .bool true] 23)) w2 := by simpa using b3
  obtain ⟨c0, _⟩ := box6 B0 0
  obtain ⟨c1, _⟩ := box6 B0 1
  obtain ⟨c2, _⟩ := box6 B0 2
  obtain ⟨c3, _⟩ := box6 B0 3
  obtain ⟨c4, _⟩ := box6 B0 4
  obtain ⟨c5, _⟩ := box6 B0 5
  have hsz := box_size B0
  have hbw := below_box B0
  clear b3 B0
  by_cases her : er = 0
  · subst her
    by_cases hsm : (⟨f0, h0, p0, pa0, qu0, hq0⟩ : Tg) = ⟨2, h, -1, pa, qu, true⟩
    · have HB := Lib.hid (HY.out rfl hsm)
      have HE : ∀ w : World, (Op.equalIn 10000 23 (.agg #[.int .i64 f0, .string h0, .int .i64 p0, .string pa0, .string qu0, .bool hq0]) (.agg #[.int .i64 2, .string h, .int .i64 (-1), .string pa, .string qu, .bool true])).run Tryz.prog w = .ok true w := fun w => (HPT.out w).trans (by rw [sameTg_iff.2 hsm])
      clear hsm HPT HY HN
      go_wp2
      go_ret2
      exact ⟨by rw [HB.out]; rfl, by (repeat (first | (with_reducible refine Below.setCell ?_ (by simp) _) | (with_reducible refine Below.alloc ?_ (by omega) _))); exact hbw⟩
    · have HB := Lib.hid (HN.out (.inr hsm))
      have HE : ∀ w : World, (Op.equalIn 10000 23 (.agg #[.int .i64 f0, .string h0, .int .i64 p0, .string pa0, .string qu0, .bool hq0]) (.agg #[.int .i64 2, .string h, .int .i64 (-1), .string pa, .string qu, .bool true])).run Tryz.prog w = .ok false w := fun w => (HPT.out w).trans (by rw [Bool.eq_false_iff.2 (fun h => hsm (sameTg_iff.1 h))])
      clear hsm HPT HY HN
      go_wp2
      go_ret2
      exact ⟨by rw [HB.out]; rfl, by (repeat (first | (with_reducible refine Below.setCell ?_ (by simp) _) | (with_reducible refine Below.alloc ?_ (by omega) _))); exact hbw⟩
  · have HB := Lib.hid (HN.out (.inl her))
    have hne2 : (er != 0) = true := by simpa using her
    clear her HPT HY HN
    go_wp2
    go_ret2
    exact ⟨by rw [HB.out]; rfl, by (repeat (first | (with_reducible refine Below.setCell ?_ (by simp) _) | (with_reducible refine Below.alloc ?_ (by omega) _))); exact hbw⟩
set_option maxRecDepth 100000 in
set_option maxHeartbeats 4000000 in
theorem Printx_2pn (h pa qu : ByteArray) (p : Int) (w : World) (hg : Glob w) (hp : ¬ p = -1) (hp0 : -9223372036854775808 ≤ p) (hp1 : p ≤ 9223372036854775807) (hs : (textP ⟨2, h, p, pa, qu, false⟩).2.size ≤ 4194304) :
    Calls Tryz.prog 10 #[Tg.val ⟨2, h, p, pa, qu, false⟩] w fun e w' => e = .returned (.tuple #[.string (printWith (textP ⟨2, h, p, pa, qu, false⟩) ⟨2, h, p, pa, qu, false⟩).1, .int .i64 (printWith (textP ⟨2, h, p, pa, qu, false⟩) ⟨2, h, p, pa, qu, false⟩).2]) ∧ Below w.heap.size w w' := by
  have hm : (textP ⟨2, h, p, pa, qu, false⟩).1 = getT := by
    unfold textP
    simp
  have hx : (textP ⟨2, h, p, pa, qu, false⟩).2 = (⟨#[104, 116, 116, 112, 58, 47, 47]⟩ : ByteArray) ++ h ++ ((⟨#[58]⟩ : ByteArray) ++ itoaT p) ++ pa := by
    apply bytes_ext
    unfold textP tailT queryT
    simp [mkT, httpT, portT, itoaT, hp]
  have he : textP ⟨2, h, p, pa, qu, false⟩ = (getT, (⟨#[104, 116, 116, 112, 58, 47, 47]⟩ : ByteArray) ++ h ++ ((⟨#[58]⟩ : ByteArray) ++ itoaT p) ++ pa) := Prod.ext hm hx
  rw [hx] at hs
  rw [he]
  clear hm hx he
  have HP := Lib.hid (fun w hg => Parse_any getT ((⟨#[104, 116, 116, 112, 58, 47, 47]⟩ : ByteArray) ++ h ++ ((⟨#[58]⟩ : ByteArray) ++ itoaT p) ++ pa) w hs hg)
  have HY := Lib.hid (fun h1 h2 => print_yes (x := (getT, (⟨#[104, 116, 116, 112, 58, 47, 47]⟩ : ByteArray) ++ h ++ ((⟨#[58]⟩ : ByteArray) ++ itoaT p) ++ pa)) (t := ⟨2, h, p, pa, qu, false⟩) h1 h2)
  have HN := Lib.hid (fun h1 => print_no (x := (getT, (⟨#[104, 116, 116, 112, 58, 47, 47]⟩ : ByteArray) ++ h ++ ((⟨#[58]⟩ : ByteArray) ++ itoaT p) ++ pa)) (t := ⟨2, h, p, pa, qu, false⟩) h1)
  dsimp only at HY HN
  generalize parseT getT ((⟨#[104, 116, 116, 112, 58, 47, 47]⟩ : ByteArray) ++ h ++ ((⟨#[58]⟩ : ByteArray) ++ itoaT p) ++ pa) = r at *
  obtain ⟨⟨f0, h0, p0, pa0, qu0, hq0⟩, i0, er⟩ := r
  unfold tgVal Tg.val at HP
  dsimp only at HP HY HN
  unfold getT at *
  simp only [ByteArray.size_append] at hs
  have hne : (p != -1) = true := by simpa using hp
  have HD := Lib.hid (fun w hg => Digits_any p w hp0 hp1 hg)
  have zi : (itoaT p).size ≤ 4194304 := itoaT_small hp0 hp1
  have zh : (h).size ≤ 4194304 := by omega
  have zp : (pa).size ≤ 4194304 := by omega
  have HPT := Lib.hid (fun (w : World) => eq_tgt ⟨f0, h0, p0, pa0, qu0, hq0⟩ ⟨2, h, p, pa, qu, false⟩ w)
  unfold Tg.val at HPT
  dsimp only at HPT
  clear hs
  generalize itoaT p = d at *
  unfold Tg.val
  dsimp only
  go_enter Tryz.func10, Tryz.ntmps10
  go_wp2_with fail
  have hg1 : Glob (w.alloc (.cells #[.int .i64 2, .string h, .int .i64 p, .string pa, .string qu, .bool false] 23)) := hg.alloc _
  refine (HD.out _ hg1).mono ?_
  rintro e w1 ⟨rfl, b1⟩
  have hg2 := hg1.beyond b1
  have B1 : Below (w.heap.size + 1) (w.alloc (.cells #[.int .i64 2, .string h, .int .i64 p, .string pa, .string qu, .bool false] 23)) w1 := by simpa using b1
  obtain ⟨e3, _⟩ := box6 B1 3
  obtain ⟨e4, _⟩ := box6 B1 4
  obtain ⟨e5, _⟩ := box6 B1 5
  clear B1
  go_wp2_with fail
  refine (HP.out _ hg2).mono ?_
  rintro e w2 ⟨rfl, b2⟩
  have b3 := b1.trans (b2.mono b1.size)
  clear b1 b2 e3 e4 e5
  have B0 : Below (w.heap.size + 1) (w.alloc (.cells #[.int .i64 2, .string h, .int .i64 p, .string pa, .string qu, .bool false] 23)) w2 := by simpa using b3
  obtain ⟨c0, _⟩ := box6 B0 0
  obtain ⟨c1, _⟩ := box6 B0 1
  obtain ⟨c2, _⟩ := box6 B0 2
  obtain ⟨c3, _⟩ := box6 B0 3
  obtain ⟨c4, _⟩ := box6 B0 4
  obtain ⟨c5, _⟩ := box6 B0 5
  have hsz := box_size B0
  have hbw := below_box B0
  clear b3 B0
  by_cases her : er = 0
  · subst her
    by_cases hsm : (⟨f0, h0, p0, pa0, qu0, hq0⟩ : Tg) = ⟨2, h, p, pa, qu, false⟩
    · have HB := Lib.hid (HY.out rfl hsm)
      have HE : ∀ w : World, (Op.equalIn 10000 23 (.agg #[.int .i64 f0, .string h0, .int .i64 p0, .string pa0, .string qu0, .bool hq0]) (.agg #[.int .i64 2, .string h, .int .i64 p, .string pa, .string qu, .bool false])).run Tryz.prog w = .ok true w := fun w => (HPT.out w).trans (by rw [sameTg_iff.2 hsm])
      clear hsm HPT HY HN
      go_wp2
      go_ret2
      exact ⟨by rw [HB.out]; rfl, by (repeat (first | (with_reducible refine Below.setCell ?_ (by simp) _) | (with_reducible refine Below.alloc ?_ (by omega) _))); exact hbw⟩
    · have HB := Lib.hid (HN.out (.inr hsm))
      have HE : ∀ w : World, (Op.equalIn 10000 23 (.agg #[.int .i64 f0, .string h0, .int .i64 p0, .string pa0, .string qu0, .bool hq0]) (.agg #[.int .i64 2, .string h, .int .i64 p, .string pa, .string qu, .bool false])).run Tryz.prog w = .ok false w := fun w => (HPT.out w).trans (by rw [Bool.eq_false_iff.2 (fun h => hsm (sameTg_iff.1 h))])
      clear hsm HPT HY HN
      go_wp2
      go_ret2
      exact ⟨by rw [HB.out]; rfl, by (repeat (first | (with_reducible refine Below.setCell ?_ (by simp) _) | (with_reducible refine Below.alloc ?_ (by omega) _))); exact hbw⟩
  · have HB := Lib.hid (HN.out (.inl her))
    have hne2 : (er != 0) = true := by simpa using her
    clear her HPT HY HN
    go_wp2
    go_ret2
    exact ⟨by rw [HB.out]; rfl, by (repeat (first | (with_reducible refine Below.setCell ?_ (by simp) _) | (with_reducible refine Below.alloc ?_ (by omega) _))); exact hbw⟩
set_option maxRecDepth 100000 in
set_option maxHeartbeats 4000000 in
theorem Printx_2pq (h pa qu : ByteArray) (p : Int) (w : World) (hg : Glob w) (hp : ¬ p = -1) (hp0 : -9223372036854775808 ≤ p) (hp1 : p ≤ 9223372036854775807) (hs : (textP ⟨2, h, p, pa, qu, true⟩).2.size ≤ 4194304) :
    Calls Tryz.prog 10 #[Tg.val ⟨2, h, p, pa, qu, true⟩] w fun e w' => e = .returned (.tuple #[.string (printWith (textP ⟨2, h, p, pa, qu, true⟩) ⟨2, h, p, pa, qu, true⟩).1, .int .i64 (printWith (textP ⟨2, h, p, pa, qu, true⟩) ⟨2, h, p, pa, qu, true⟩).2]) ∧ Below w.heap.size w w' := by
  have hm : (textP ⟨2, h, p, pa, qu, true⟩).1 = getT := by
    unfold textP
    simp
  have hx : (textP ⟨2, h, p, pa, qu, true⟩).2 = (⟨#[104, 116, 116, 112, 58, 47, 47]⟩ : ByteArray) ++ h ++ ((⟨#[58]⟩ : ByteArray) ++ itoaT p) ++ pa ++ ((⟨#[63]⟩ : ByteArray) ++ qu) := by
    apply bytes_ext
    unfold textP tailT queryT
    simp [mkT, httpT, portT, itoaT, hp]
  have he : textP ⟨2, h, p, pa, qu, true⟩ = (getT, (⟨#[104, 116, 116, 112, 58, 47, 47]⟩ : ByteArray) ++ h ++ ((⟨#[58]⟩ : ByteArray) ++ itoaT p) ++ pa ++ ((⟨#[63]⟩ : ByteArray) ++ qu)) := Prod.ext hm hx
  rw [hx] at hs
  rw [he]
  clear hm hx he
  have HP := Lib.hid (fun w hg => Parse_any getT ((⟨#[104, 116, 116, 112, 58, 47, 47]⟩ : ByteArray) ++ h ++ ((⟨#[58]⟩ : ByteArray) ++ itoaT p) ++ pa ++ ((⟨#[63]⟩ : ByteArray) ++ qu)) w hs hg)
  have HY := Lib.hid (fun h1 h2 => print_yes (x := (getT, (⟨#[104, 116, 116, 112, 58, 47, 47]⟩ : ByteArray) ++ h ++ ((⟨#[58]⟩ : ByteArray) ++ itoaT p) ++ pa ++ ((⟨#[63]⟩ : ByteArray) ++ qu))) (t := ⟨2, h, p, pa, qu, true⟩) h1 h2)
  have HN := Lib.hid (fun h1 => print_no (x := (getT, (⟨#[104, 116, 116, 112, 58, 47, 47]⟩ : ByteArray) ++ h ++ ((⟨#[58]⟩ : ByteArray) ++ itoaT p) ++ pa ++ ((⟨#[63]⟩ : ByteArray) ++ qu))) (t := ⟨2, h, p, pa, qu, true⟩) h1)
  dsimp only at HY HN
  generalize parseT getT ((⟨#[104, 116, 116, 112, 58, 47, 47]⟩ : ByteArray) ++ h ++ ((⟨#[58]⟩ : ByteArray) ++ itoaT p) ++ pa ++ ((⟨#[63]⟩ : ByteArray) ++ qu)) = r at *
  obtain ⟨⟨f0, h0, p0, pa0, qu0, hq0⟩, i0, er⟩ := r
  unfold tgVal Tg.val at HP
  dsimp only at HP HY HN
  unfold getT at *
  simp only [ByteArray.size_append] at hs
  have hne : (p != -1) = true := by simpa using hp
  have HD := Lib.hid (fun w hg => Digits_any p w hp0 hp1 hg)
  have zi : (itoaT p).size ≤ 4194304 := itoaT_small hp0 hp1
  have zh : (h).size ≤ 4194304 := by omega
  have zp : (pa).size ≤ 4194304 := by omega
  have zq : (qu).size ≤ 4194304 := by omega
  have HPT := Lib.hid (fun (w : World) => eq_tgt ⟨f0, h0, p0, pa0, qu0, hq0⟩ ⟨2, h, p, pa, qu, true⟩ w)
  unfold Tg.val at HPT
  dsimp only at HPT
  clear hs
  generalize itoaT p = d at *
  unfold Tg.val
  dsimp only
  go_enter Tryz.func10, Tryz.ntmps10
  go_wp2_with fail
  have hg1 : Glob (w.alloc (.cells #[.int .i64 2, .string h, .int .i64 p, .string pa, .string qu, .bool true] 23)) := hg.alloc _
  refine (HD.out _ hg1).mono ?_
  rintro e w1 ⟨rfl, b1⟩
  have hg2 := hg1.beyond b1
  have B1 : Below (w.heap.size + 1) (w.alloc (.cells #[.int .i64 2, .string h, .int .i64 p, .string pa, .string qu, .bool true] 23)) w1 := by simpa using b1
  obtain ⟨e3, _⟩ := box6 B1 3
  obtain ⟨e4, _⟩ := box6 B1 4
  obtain ⟨e5, _⟩ := box6 B1 5
  clear B1
  go_wp2_with fail
  refine (HP.out _ hg2).mono ?_
  rintro e w2 ⟨rfl, b2⟩
  have b3 := b1.trans (b2.mono b1.size)
  clear b1 b2 e3 e4 e5
  have B0 : Below (w.heap.size + 1) (w.alloc (.cells #[.int .i64 2, .string h, .int .i64 p, .string pa, .string qu, .bool true] 23)) w2 := by simpa using b3
  obtain ⟨c0, _⟩ := box6 B0 0
  obtain ⟨c1, _⟩ := box6 B0 1
  obtain ⟨c2, _⟩ := box6 B0 2
  obtain ⟨c3, _⟩ := box6 B0 3
  obtain ⟨c4, _⟩ := box6 B0 4
  obtain ⟨c5, _⟩ := box6 B0 5
  have hsz := box_size B0
  have hbw := below_box B0
  clear b3 B0
  by_cases her : er = 0
  · subst her
    by_cases hsm : (⟨f0, h0, p0, pa0, qu0, hq0⟩ : Tg) = ⟨2, h, p, pa, qu, true⟩
    · have HB := Lib.hid (HY.out rfl hsm)
      have HE : ∀ w : World, (Op.equalIn 10000 23 (.agg #[.int .i64 f0, .string h0, .int .i64 p0, .string pa0, .string qu0, .bool hq0]) (.agg #[.int .i64 2, .string h, .int .i64 p, .string pa, .string qu, .bool true])).run Tryz.prog w = .ok true w := fun w => (HPT.out w).trans (by rw [sameTg_iff.2 hsm])
      clear hsm HPT HY HN
      go_wp2
      go_ret2
      exact ⟨by rw [HB.out]; rfl, by (repeat (first | (with_reducible refine Below.setCell ?_ (by simp) _) | (with_reducible refine Below.alloc ?_ (by omega) _))); exact hbw⟩
    · have HB := Lib.hid (HN.out (.inr hsm))
      have HE : ∀ w : World, (Op.equalIn 10000 23 (.agg #[.int .i64 f0, .string h0, .int .i64 p0, .string pa0, .string qu0, .bool hq0]) (.agg #[.int .i64 2, .string h, .int .i64 p, .string pa, .string qu, .bool true])).run Tryz.prog w = .ok false w := fun w => (HPT.out w).trans (by rw [Bool.eq_false_iff.2 (fun h => hsm (sameTg_iff.1 h))])
      clear hsm HPT HY HN
      go_wp2
      go_ret2
      exact ⟨by rw [HB.out]; rfl, by (repeat (first | (with_reducible refine Below.setCell ?_ (by simp) _) | (with_reducible refine Below.alloc ?_ (by omega) _))); exact hbw⟩
  · have HB := Lib.hid (HN.out (.inl her))
    have hne2 : (er != 0) = true := by simpa using her
    clear her HPT HY HN
    go_wp2
    go_ret2
    exact ⟨by rw [HB.out]; rfl, by (repeat (first | (with_reducible refine Below.setCell ?_ (by simp) _) | (with_reducible refine Below.alloc ?_ (by omega) _))); exact hbw⟩

set_option maxRecDepth 100000 in
set_option maxHeartbeats 4000000 in
theorem Printx_0nn (f : Int) (h pa qu : ByteArray) (w : World) (hg : Glob w) (hf : ¬ f = 1 ∧ ¬ f = 2 ∧ ¬ f = 3 ∧ ¬ f = 4) (hs : (textP ⟨f, h, -1, pa, qu, false⟩).2.size ≤ 4194304) :
    Calls Tryz.prog 10 #[Tg.val ⟨f, h, -1, pa, qu, false⟩] w fun e w' => e = .returned (.tuple #[.string (printWith (textP ⟨f, h, -1, pa, qu, false⟩) ⟨f, h, -1, pa, qu, false⟩).1, .int .i64 (printWith (textP ⟨f, h, -1, pa, qu, false⟩) ⟨f, h, -1, pa, qu, false⟩).2]) ∧ Below w.heap.size w w' := by
  have hm : (textP ⟨f, h, -1, pa, qu, false⟩).1 = getT := by
    unfold textP
    simp [hf.1, hf.2.1, hf.2.2.1, hf.2.2.2]
  have hx : (textP ⟨f, h, -1, pa, qu, false⟩).2 = (⟨#[]⟩ : ByteArray) ++ pa := by
    apply bytes_ext
    unfold textP tailT queryT
    simp [hf.1, hf.2.1, hf.2.2.1, hf.2.2.2, mkT, portT]
  have he : textP ⟨f, h, -1, pa, qu, false⟩ = (getT, (⟨#[]⟩ : ByteArray) ++ pa) := Prod.ext hm hx
  rw [hx] at hs
  rw [he]
  clear hm hx he
  have HP := Lib.hid (fun w hg => Parse_any getT ((⟨#[]⟩ : ByteArray) ++ pa) w hs hg)
  have HY := Lib.hid (fun h1 h2 => print_yes (x := (getT, (⟨#[]⟩ : ByteArray) ++ pa)) (t := ⟨f, h, -1, pa, qu, false⟩) h1 h2)
  have HN := Lib.hid (fun h1 => print_no (x := (getT, (⟨#[]⟩ : ByteArray) ++ pa)) (t := ⟨f, h, -1, pa, qu, false⟩) h1)
  dsimp only at HY HN
  generalize parseT getT ((⟨#[]⟩ : ByteArray) ++ pa) = r at *
  obtain ⟨⟨f0, h0, p0, pa0, qu0, hq0⟩, i0, er⟩ := r
  unfold tgVal Tg.val at HP
  dsimp only at HP HY HN
  unfold getT at *
  simp only [ByteArray.size_append] at hs
  have f1 : (f != 1) = true := by simpa using hf.1
  have f2 : (f == 2) = false := by simpa using hf.2.1
  have f3 : (f == 3) = false := by simpa using hf.2.2.1
  have f4 : (f == 4) = false := by simpa using hf.2.2.2
  clear hf
  have zp : (pa).size ≤ 4194304 := by omega
  have HPT := Lib.hid (fun (w : World) => eq_tgt ⟨f0, h0, p0, pa0, qu0, hq0⟩ ⟨f, h, -1, pa, qu, false⟩ w)
  unfold Tg.val at HPT
  dsimp only at HPT
  clear hs
  unfold Tg.val
  dsimp only
  go_enter Tryz.func10, Tryz.ntmps10
  go_wp2_with fail
  have hg1 : Glob (w.alloc (.cells #[.int .i64 f, .string h, .int .i64 (-1), .string pa, .string qu, .bool false] 23)) := hg.alloc _
  refine (HP.out _ hg1).mono ?_
  rintro e w2 ⟨rfl, b3⟩
  have B0 : Below (w.heap.size + 1) (w.alloc (.cells #[.int .i64 f, .string h, .int .i64 (-1), .string pa, .string qu, .bool false] 23)) w2 := by simpa using b3
  obtain ⟨c0, _⟩ := box6 B0 0
  obtain ⟨c1, _⟩ := box6 B0 1
  obtain ⟨c2, _⟩ := box6 B0 2
  obtain ⟨c3, _⟩ := box6 B0 3
  obtain ⟨c4, _⟩ := box6 B0 4
  obtain ⟨c5, _⟩ := box6 B0 5
  have hsz := box_size B0
  have hbw := below_box B0
  clear b3 B0
  by_cases her : er = 0
  · subst her
    by_cases hsm : (⟨f0, h0, p0, pa0, qu0, hq0⟩ : Tg) = ⟨f, h, -1, pa, qu, false⟩
    · have HB := Lib.hid (HY.out rfl hsm)
      have HE : ∀ w : World, (Op.equalIn 10000 23 (.agg #[.int .i64 f0, .string h0, .int .i64 p0, .string pa0, .string qu0, .bool hq0]) (.agg #[.int .i64 f, .string h, .int .i64 (-1), .string pa, .string qu, .bool false])).run Tryz.prog w = .ok true w := fun w => (HPT.out w).trans (by rw [sameTg_iff.2 hsm])
      clear hsm HPT HY HN
      go_wp2
      go_ret2
      exact ⟨by rw [HB.out]; rfl, by (repeat (first | (with_reducible refine Below.setCell ?_ (by simp) _) | (with_reducible refine Below.alloc ?_ (by omega) _))); exact hbw⟩
    · have HB := Lib.hid (HN.out (.inr hsm))
      have HE : ∀ w : World, (Op.equalIn 10000 23 (.agg #[.int .i64 f0, .string h0, .int .i64 p0, .string pa0, .string qu0, .bool hq0]) (.agg #[.int .i64 f, .string h, .int .i64 (-1), .string pa, .string qu, .bool false])).run Tryz.prog w = .ok false w := fun w => (HPT.out w).trans (by rw [Bool.eq_false_iff.2 (fun h => hsm (sameTg_iff.1 h))])
      clear hsm HPT HY HN
      go_wp2
      go_ret2
      exact ⟨by rw [HB.out]; rfl, by (repeat (first | (with_reducible refine Below.setCell ?_ (by simp) _) | (with_reducible refine Below.alloc ?_ (by omega) _))); exact hbw⟩
  · have HB := Lib.hid (HN.out (.inl her))
    have hne2 : (er != 0) = true := by simpa using her
    clear her HPT HY HN
    go_wp2
    go_ret2
    exact ⟨by rw [HB.out]; rfl, by (repeat (first | (with_reducible refine Below.setCell ?_ (by simp) _) | (with_reducible refine Below.alloc ?_ (by omega) _))); exact hbw⟩
set_option maxRecDepth 100000 in
set_option maxHeartbeats 4000000 in
theorem Printx_0nq (f : Int) (h pa qu : ByteArray) (w : World) (hg : Glob w) (hf : ¬ f = 1 ∧ ¬ f = 2 ∧ ¬ f = 3 ∧ ¬ f = 4) (hs : (textP ⟨f, h, -1, pa, qu, true⟩).2.size ≤ 4194304) :
    Calls Tryz.prog 10 #[Tg.val ⟨f, h, -1, pa, qu, true⟩] w fun e w' => e = .returned (.tuple #[.string (printWith (textP ⟨f, h, -1, pa, qu, true⟩) ⟨f, h, -1, pa, qu, true⟩).1, .int .i64 (printWith (textP ⟨f, h, -1, pa, qu, true⟩) ⟨f, h, -1, pa, qu, true⟩).2]) ∧ Below w.heap.size w w' := by
  have hm : (textP ⟨f, h, -1, pa, qu, true⟩).1 = getT := by
    unfold textP
    simp [hf.1, hf.2.1, hf.2.2.1, hf.2.2.2]
  have hx : (textP ⟨f, h, -1, pa, qu, true⟩).2 = (⟨#[]⟩ : ByteArray) ++ pa ++ ((⟨#[63]⟩ : ByteArray) ++ qu) := by
    apply bytes_ext
    unfold textP tailT queryT
    simp [hf.1, hf.2.1, hf.2.2.1, hf.2.2.2, mkT, portT]
  have he : textP ⟨f, h, -1, pa, qu, true⟩ = (getT, (⟨#[]⟩ : ByteArray) ++ pa ++ ((⟨#[63]⟩ : ByteArray) ++ qu)) := Prod.ext hm hx
  rw [hx] at hs
  rw [he]
  clear hm hx he
  have HP := Lib.hid (fun w hg => Parse_any getT ((⟨#[]⟩ : ByteArray) ++ pa ++ ((⟨#[63]⟩ : ByteArray) ++ qu)) w hs hg)
  have HY := Lib.hid (fun h1 h2 => print_yes (x := (getT, (⟨#[]⟩ : ByteArray) ++ pa ++ ((⟨#[63]⟩ : ByteArray) ++ qu))) (t := ⟨f, h, -1, pa, qu, true⟩) h1 h2)
  have HN := Lib.hid (fun h1 => print_no (x := (getT, (⟨#[]⟩ : ByteArray) ++ pa ++ ((⟨#[63]⟩ : ByteArray) ++ qu))) (t := ⟨f, h, -1, pa, qu, true⟩) h1)
  dsimp only at HY HN
  generalize parseT getT ((⟨#[]⟩ : ByteArray) ++ pa ++ ((⟨#[63]⟩ : ByteArray) ++ qu)) = r at *
  obtain ⟨⟨f0, h0, p0, pa0, qu0, hq0⟩, i0, er⟩ := r
  unfold tgVal Tg.val at HP
  dsimp only at HP HY HN
  unfold getT at *
  simp only [ByteArray.size_append] at hs
  have f1 : (f != 1) = true := by simpa using hf.1
  have f2 : (f == 2) = false := by simpa using hf.2.1
  have f3 : (f == 3) = false := by simpa using hf.2.2.1
  have f4 : (f == 4) = false := by simpa using hf.2.2.2
  clear hf
  have zp : (pa).size ≤ 4194304 := by omega
  have zq : (qu).size ≤ 4194304 := by omega
  have HPT := Lib.hid (fun (w : World) => eq_tgt ⟨f0, h0, p0, pa0, qu0, hq0⟩ ⟨f, h, -1, pa, qu, true⟩ w)
  unfold Tg.val at HPT
  dsimp only at HPT
  clear hs
  unfold Tg.val
  dsimp only
  go_enter Tryz.func10, Tryz.ntmps10
  go_wp2_with fail
  have hg1 : Glob (w.alloc (.cells #[.int .i64 f, .string h, .int .i64 (-1), .string pa, .string qu, .bool true] 23)) := hg.alloc _
  refine (HP.out _ hg1).mono ?_
  rintro e w2 ⟨rfl, b3⟩
  have B0 : Below (w.heap.size + 1) (w.alloc (.cells #[.int .i64 f, .string h, .int .i64 (-1), .string pa, .string qu, .bool true] 23)) w2 := by simpa using b3
  obtain ⟨c0, _⟩ := box6 B0 0
  obtain ⟨c1, _⟩ := box6 B0 1
  obtain ⟨c2, _⟩ := box6 B0 2
  obtain ⟨c3, _⟩ := box6 B0 3
  obtain ⟨c4, _⟩ := box6 B0 4
  obtain ⟨c5, _⟩ := box6 B0 5
  have hsz := box_size B0
  have hbw := below_box B0
  clear b3 B0
  by_cases her : er = 0
  · subst her
    by_cases hsm : (⟨f0, h0, p0, pa0, qu0, hq0⟩ : Tg) = ⟨f, h, -1, pa, qu, true⟩
    · have HB := Lib.hid (HY.out rfl hsm)
      have HE : ∀ w : World, (Op.equalIn 10000 23 (.agg #[.int .i64 f0, .string h0, .int .i64 p0, .string pa0, .string qu0, .bool hq0]) (.agg #[.int .i64 f, .string h, .int .i64 (-1), .string pa, .string qu, .bool true])).run Tryz.prog w = .ok true w := fun w => (HPT.out w).trans (by rw [sameTg_iff.2 hsm])
      clear hsm HPT HY HN
      go_wp2
      go_ret2
      exact ⟨by rw [HB.out]; rfl, by (repeat (first | (with_reducible refine Below.setCell ?_ (by simp) _) | (with_reducible refine Below.alloc ?_ (by omega) _))); exact hbw⟩
    · have HB := Lib.hid (HN.out (.inr hsm))
      have HE : ∀ w : World, (Op.equalIn 10000 23 (.agg #[.int .i64 f0, .string h0, .int .i64 p0, .string pa0, .string qu0, .bool hq0]) (.agg #[.int .i64 f, .string h, .int .i64 (-1), .string pa, .string qu, .bool true])).run Tryz.prog w = .ok false w := fun w => (HPT.out w).trans (by rw [Bool.eq_false_iff.2 (fun h => hsm (sameTg_iff.1 h))])
      clear hsm HPT HY HN
      go_wp2
      go_ret2
      exact ⟨by rw [HB.out]; rfl, by (repeat (first | (with_reducible refine Below.setCell ?_ (by simp) _) | (with_reducible refine Below.alloc ?_ (by omega) _))); exact hbw⟩
  · have HB := Lib.hid (HN.out (.inl her))
    have hne2 : (er != 0) = true := by simpa using her
    clear her HPT HY HN
    go_wp2
    go_ret2
    exact ⟨by rw [HB.out]; rfl, by (repeat (first | (with_reducible refine Below.setCell ?_ (by simp) _) | (with_reducible refine Below.alloc ?_ (by omega) _))); exact hbw⟩
set_option maxRecDepth 100000 in
set_option maxHeartbeats 4000000 in
theorem Printx_0pn (f : Int) (h pa qu : ByteArray) (p : Int) (w : World) (hg : Glob w) (hf : ¬ f = 1 ∧ ¬ f = 2 ∧ ¬ f = 3 ∧ ¬ f = 4) (hp : ¬ p = -1) (hp0 : -9223372036854775808 ≤ p) (hp1 : p ≤ 9223372036854775807) (hs : (textP ⟨f, h, p, pa, qu, false⟩).2.size ≤ 4194304) :
    Calls Tryz.prog 10 #[Tg.val ⟨f, h, p, pa, qu, false⟩] w fun e w' => e = .returned (.tuple #[.string (printWith (textP ⟨f, h, p, pa, qu, false⟩) ⟨f, h, p, pa, qu, false⟩).1, .int .i64 (printWith (textP ⟨f, h, p, pa, qu, false⟩) ⟨f, h, p, pa, qu, false⟩).2]) ∧ Below w.heap.size w w' := by
  have hm : (textP ⟨f, h, p, pa, qu, false⟩).1 = getT := by
    unfold textP
    simp [hf.1, hf.2.1, hf.2.2.1, hf.2.2.2]
  have hx : (textP ⟨f, h, p, pa, qu, false⟩).2 = (⟨#[]⟩ : ByteArray) ++ ((⟨#[58]⟩ : ByteArray) ++ itoaT p) ++ pa := by
    apply bytes_ext
    unfold textP tailT queryT
    simp [hf.1, hf.2.1, hf.2.2.1, hf.2.2.2, mkT, portT, itoaT, hp]
  have he : textP ⟨f, h, p, pa, qu, false⟩ = (getT, (⟨#[]⟩ : ByteArray) ++ ((⟨#[58]⟩ : ByteArray) ++ itoaT p) ++ pa) := Prod.ext hm hx
  rw [hx] at hs
  rw [he]
  clear hm hx he
  have HP := Lib.hid (fun w hg => Parse_any getT ((⟨#[]⟩ : ByteArray) ++ ((⟨#[58]⟩ : ByteArray) ++ itoaT p) ++ pa) w hs hg)
  have HY := Lib.hid (fun h1 h2 => print_yes (x := (getT, (⟨#[]⟩ : ByteArray) ++ ((⟨#[58]⟩ : ByteArray) ++ itoaT p) ++ pa)) (t := ⟨f, h, p, pa, qu, false⟩) h1 h2)
  have HN := Lib.hid (fun h1 => print_no (x := (getT, (⟨#[]⟩ : ByteArray) ++ ((⟨#[58]⟩ : ByteArray) ++ itoaT p) ++ pa)) (t := ⟨f, h, p, pa, qu, false⟩) h1)
  dsimp only at HY HN
  generalize parseT getT ((⟨#[]⟩ : ByteArray) ++ ((⟨#[58]⟩ : ByteArray) ++ itoaT p) ++ pa) = r at *
  obtain ⟨⟨f0, h0, p0, pa0, qu0, hq0⟩, i0, er⟩ := r
  unfold tgVal Tg.val at HP
  dsimp only at HP HY HN
  unfold getT at *
  simp only [ByteArray.size_append] at hs
  have f1 : (f != 1) = true := by simpa using hf.1
  have f2 : (f == 2) = false := by simpa using hf.2.1
  have f3 : (f == 3) = false := by simpa using hf.2.2.1
  have f4 : (f == 4) = false := by simpa using hf.2.2.2
  clear hf
  have hne : (p != -1) = true := by simpa using hp
  have HD := Lib.hid (fun w hg => Digits_any p w hp0 hp1 hg)
  have zi : (itoaT p).size ≤ 4194304 := itoaT_small hp0 hp1
  have zp : (pa).size ≤ 4194304 := by omega
  have HPT := Lib.hid (fun (w : World) => eq_tgt ⟨f0, h0, p0, pa0, qu0, hq0⟩ ⟨f, h, p, pa, qu, false⟩ w)
  unfold Tg.val at HPT
  dsimp only at HPT
  clear hs
  generalize itoaT p = d at *
  unfold Tg.val
  dsimp only
  go_enter Tryz.func10, Tryz.ntmps10
  go_wp2_with fail
  have hg1 : Glob (w.alloc (.cells #[.int .i64 f, .string h, .int .i64 p, .string pa, .string qu, .bool false] 23)) := hg.alloc _
  refine (HD.out _ hg1).mono ?_
  rintro e w1 ⟨rfl, b1⟩
  have hg2 := hg1.beyond b1
  have B1 : Below (w.heap.size + 1) (w.alloc (.cells #[.int .i64 f, .string h, .int .i64 p, .string pa, .string qu, .bool false] 23)) w1 := by simpa using b1
  obtain ⟨e3, _⟩ := box6 B1 3
  obtain ⟨e4, _⟩ := box6 B1 4
  obtain ⟨e5, _⟩ := box6 B1 5
  clear B1
  go_wp2_with fail
  refine (HP.out _ hg2).mono ?_
  rintro e w2 ⟨rfl, b2⟩
  have b3 := b1.trans (b2.mono b1.size)
  clear b1 b2 e3 e4 e5
  have B0 : Below (w.heap.size + 1) (w.alloc (.cells #[.int .i64 f, .string h, .int .i64 p, .string pa, .string qu, .bool false] 23)) w2 := by simpa using b3
  obtain ⟨c0, _⟩ := box6 B0 0
  obtain ⟨c1, _⟩ := box6 B0 1
  obtain ⟨c2, _⟩ := box6 B0 2
  obtain ⟨c3, _⟩ := box6 B0 3
  obtain ⟨c4, _⟩ := box6 B0 4
  obtain ⟨c5, _⟩ := box6 B0 5
  have hsz := box_size B0
  have hbw := below_box B0
  clear b3 B0
  by_cases her : er = 0
  · subst her
    by_cases hsm : (⟨f0, h0, p0, pa0, qu0, hq0⟩ : Tg) = ⟨f, h, p, pa, qu, false⟩
    · have HB := Lib.hid (HY.out rfl hsm)
      have HE : ∀ w : World, (Op.equalIn 10000 23 (.agg #[.int .i64 f0, .string h0, .int .i64 p0, .string pa0, .string qu0, .bool hq0]) (.agg #[.int .i64 f, .string h, .int .i64 p, .string pa, .string qu, .bool false])).run Tryz.prog w = .ok true w := fun w => (HPT.out w).trans (by rw [sameTg_iff.2 hsm])
      clear hsm HPT HY HN
      go_wp2
      go_ret2
      exact ⟨by rw [HB.out]; rfl, by (repeat (first | (with_reducible refine Below.setCell ?_ (by simp) _) | (with_reducible refine Below.alloc ?_ (by omega) _))); exact hbw⟩
    · have HB := Lib.hid (HN.out (.inr hsm))
      have HE : ∀ w : World, (Op.equalIn 10000 23 (.agg #[.int .i64 f0, .string h0, .int .i64 p0, .string pa0, .string qu0, .bool hq0]) (.agg #[.int .i64 f, .string h, .int .i64 p, .string pa, .string qu, .bool false])).run Tryz.prog w = .ok false w := fun w => (HPT.out w).trans (by rw [Bool.eq_false_iff.2 (fun h => hsm (sameTg_iff.1 h))])
      clear hsm HPT HY HN
      go_wp2
      go_ret2
      exact ⟨by rw [HB.out]; rfl, by (repeat (first | (with_reducible refine Below.setCell ?_ (by simp) _) | (with_reducible refine Below.alloc ?_ (by omega) _))); exact hbw⟩
  · have HB := Lib.hid (HN.out (.inl her))
    have hne2 : (er != 0) = true := by simpa using her
    clear her HPT HY HN
    go_wp2
    go_ret2
    exact ⟨by rw [HB.out]; rfl, by (repeat (first | (with_reducible refine Below.setCell ?_ (by simp) _) | (with_reducible refine Below.alloc ?_ (by omega) _))); exact hbw⟩
set_option maxRecDepth 100000 in
set_option maxHeartbeats 4000000 in
theorem Printx_0pq (f : Int) (h pa qu : ByteArray) (p : Int) (w : World) (hg : Glob w) (hf : ¬ f = 1 ∧ ¬ f = 2 ∧ ¬ f = 3 ∧ ¬ f = 4) (hp : ¬ p = -1) (hp0 : -9223372036854775808 ≤ p) (hp1 : p ≤ 9223372036854775807) (hs : (textP ⟨f, h, p, pa, qu, true⟩).2.size ≤ 4194304) :
    Calls Tryz.prog 10 #[Tg.val ⟨f, h, p, pa, qu, true⟩] w fun e w' => e = .returned (.tuple #[.string (printWith (textP ⟨f, h, p, pa, qu, true⟩) ⟨f, h, p, pa, qu, true⟩).1, .int .i64 (printWith (textP ⟨f, h, p, pa, qu, true⟩) ⟨f, h, p, pa, qu, true⟩).2]) ∧ Below w.heap.size w w' := by
  have hm : (textP ⟨f, h, p, pa, qu, true⟩).1 = getT := by
    unfold textP
    simp [hf.1, hf.2.1, hf.2.2.1, hf.2.2.2]
  have hx : (textP ⟨f, h, p, pa, qu, true⟩).2 = (⟨#[]⟩ : ByteArray) ++ ((⟨#[58]⟩ : ByteArray) ++ itoaT p) ++ pa ++ ((⟨#[63]⟩ : ByteArray) ++ qu) := by
    apply bytes_ext
    unfold textP tailT queryT
    simp [hf.1, hf.2.1, hf.2.2.1, hf.2.2.2, mkT, portT, itoaT, hp]
  have he : textP ⟨f, h, p, pa, qu, true⟩ = (getT, (⟨#[]⟩ : ByteArray) ++ ((⟨#[58]⟩ : ByteArray) ++ itoaT p) ++ pa ++ ((⟨#[63]⟩ : ByteArray) ++ qu)) := Prod.ext hm hx
  rw [hx] at hs
  rw [he]
  clear hm hx he
  have HP := Lib.hid (fun w hg => Parse_any getT ((⟨#[]⟩ : ByteArray) ++ ((⟨#[58]⟩ : ByteArray) ++ itoaT p) ++ pa ++ ((⟨#[63]⟩ : ByteArray) ++ qu)) w hs hg)
  have HY := Lib.hid (fun h1 h2 => print_yes (x := (getT, (⟨#[]⟩ : ByteArray) ++ ((⟨#[58]⟩ : ByteArray) ++ itoaT p) ++ pa ++ ((⟨#[63]⟩ : ByteArray) ++ qu))) (t := ⟨f, h, p, pa, qu, true⟩) h1 h2)
  have HN := Lib.hid (fun h1 => print_no (x := (getT, (⟨#[]⟩ : ByteArray) ++ ((⟨#[58]⟩ : ByteArray) ++ itoaT p) ++ pa ++ ((⟨#[63]⟩ : ByteArray) ++ qu))) (t := ⟨f, h, p, pa, qu, true⟩) h1)
  dsimp only at HY HN
  generalize parseT getT ((⟨#[]⟩ : ByteArray) ++ ((⟨#[58]⟩ : ByteArray) ++ itoaT p) ++ pa ++ ((⟨#[63]⟩ : ByteArray) ++ qu)) = r at *
  obtain ⟨⟨f0, h0, p0, pa0, qu0, hq0⟩, i0, er⟩ := r
  unfold tgVal Tg.val at HP
  dsimp only at HP HY HN
  unfold getT at *
  simp only [ByteArray.size_append] at hs
  have f1 : (f != 1) = true := by simpa using hf.1
  have f2 : (f == 2) = false := by simpa using hf.2.1
  have f3 : (f == 3) = false := by simpa using hf.2.2.1
  have f4 : (f == 4) = false := by simpa using hf.2.2.2
  clear hf
  have hne : (p != -1) = true := by simpa using hp
  have HD := Lib.hid (fun w hg => Digits_any p w hp0 hp1 hg)
  have zi : (itoaT p).size ≤ 4194304 := itoaT_small hp0 hp1
  have zp : (pa).size ≤ 4194304 := by omega
  have zq : (qu).size ≤ 4194304 := by omega
  have HPT := Lib.hid (fun (w : World) => eq_tgt ⟨f0, h0, p0, pa0, qu0, hq0⟩ ⟨f, h, p, pa, qu, true⟩ w)
  unfold Tg.val at HPT
  dsimp only at HPT
  clear hs
  generalize itoaT p = d at *
  unfold Tg.val
  dsimp only
  go_enter Tryz.func10, Tryz.ntmps10
  go_wp2_with fail
  have hg1 : Glob (w.alloc (.cells #[.int .i64 f, .string h, .int .i64 p, .string pa, .string qu, .bool true] 23)) := hg.alloc _
  refine (HD.out _ hg1).mono ?_
  rintro e w1 ⟨rfl, b1⟩
  have hg2 := hg1.beyond b1
  have B1 : Below (w.heap.size + 1) (w.alloc (.cells #[.int .i64 f, .string h, .int .i64 p, .string pa, .string qu, .bool true] 23)) w1 := by simpa using b1
  obtain ⟨e3, _⟩ := box6 B1 3
  obtain ⟨e4, _⟩ := box6 B1 4
  obtain ⟨e5, _⟩ := box6 B1 5
  clear B1
  go_wp2_with fail
  refine (HP.out _ hg2).mono ?_
  rintro e w2 ⟨rfl, b2⟩
  have b3 := b1.trans (b2.mono b1.size)
  clear b1 b2 e3 e4 e5
  have B0 : Below (w.heap.size + 1) (w.alloc (.cells #[.int .i64 f, .string h, .int .i64 p, .string pa, .string qu, .bool true] 23)) w2 := by simpa using b3
  obtain ⟨c0, _⟩ := box6 B0 0
  obtain ⟨c1, _⟩ := box6 B0 1
  obtain ⟨c2, _⟩ := box6 B0 2
  obtain ⟨c3, _⟩ := box6 B0 3
  obtain ⟨c4, _⟩ := box6 B0 4
  obtain ⟨c5, _⟩ := box6 B0 5
  have hsz := box_size B0
  have hbw := below_box B0
  clear b3 B0
  by_cases her : er = 0
  · subst her
    by_cases hsm : (⟨f0, h0, p0, pa0, qu0, hq0⟩ : Tg) = ⟨f, h, p, pa, qu, true⟩
    · have HB := Lib.hid (HY.out rfl hsm)
      have HE : ∀ w : World, (Op.equalIn 10000 23 (.agg #[.int .i64 f0, .string h0, .int .i64 p0, .string pa0, .string qu0, .bool hq0]) (.agg #[.int .i64 f, .string h, .int .i64 p, .string pa, .string qu, .bool true])).run Tryz.prog w = .ok true w := fun w => (HPT.out w).trans (by rw [sameTg_iff.2 hsm])
      clear hsm HPT HY HN
      go_wp2
      go_ret2
      exact ⟨by rw [HB.out]; rfl, by (repeat (first | (with_reducible refine Below.setCell ?_ (by simp) _) | (with_reducible refine Below.alloc ?_ (by omega) _))); exact hbw⟩
    · have HB := Lib.hid (HN.out (.inr hsm))
      have HE : ∀ w : World, (Op.equalIn 10000 23 (.agg #[.int .i64 f0, .string h0, .int .i64 p0, .string pa0, .string qu0, .bool hq0]) (.agg #[.int .i64 f, .string h, .int .i64 p, .string pa, .string qu, .bool true])).run Tryz.prog w = .ok false w := fun w => (HPT.out w).trans (by rw [Bool.eq_false_iff.2 (fun h => hsm (sameTg_iff.1 h))])
      clear hsm HPT HY HN
      go_wp2
      go_ret2
      exact ⟨by rw [HB.out]; rfl, by (repeat (first | (with_reducible refine Below.setCell ?_ (by simp) _) | (with_reducible refine Below.alloc ?_ (by omega) _))); exact hbw⟩
  · have HB := Lib.hid (HN.out (.inl her))
    have hne2 : (er != 0) = true := by simpa using her
    clear her HPT HY HN
    go_wp2
    go_ret2
    exact ⟨by rw [HB.out]; rfl, by (repeat (first | (with_reducible refine Below.setCell ?_ (by simp) _) | (with_reducible refine Below.alloc ?_ (by omega) _))); exact hbw⟩
end Go.Proofs.YtjlnbjlhlglneaaGreatDoor
