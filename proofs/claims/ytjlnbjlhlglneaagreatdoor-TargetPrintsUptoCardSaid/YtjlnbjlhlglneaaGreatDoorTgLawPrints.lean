/-
  The walk of TargetPrints.
-/
import Derived.Test.YtjlnbjlhlglneaaGreatDoorTgPj
namespace Go.Proofs.YtjlnbjlhlglneaaGreatDoor
open Go.RowKit Go.Shelf Go.Lib

theorem itoaT_len {n : Int} (h0 : -9223372036854775808 ≤ n) (h1 : n ≤ 9223372036854775807) : (Lib.itoa n).length ≤ 21 := by
  have h := Lib.nDigits_le20 n.natAbs (by omega)
  have h2 := Lib.nDigits_le20 n.toNat (by omega)
  unfold Lib.itoa
  split
  · rw [List.length_cons, Lib.decDigits_length]; omega
  · rw [Lib.decDigits_length]; omega
theorem portT_len {p : Int} (h0 : -9223372036854775808 ≤ p) (h1 : p ≤ 9223372036854775807) : (portT p).length ≤ 22 := by
  unfold portT
  split
  · exact Nat.zero_le _
  · rw [List.length_cons]
    have := itoaT_len h0 h1
    omega
theorem tailT_len (t : Tg) : (tailT t).length ≤ t.path.size + t.query.size + 1 := by
  unfold tailT queryT
  rw [List.length_append, size_eq]
  split
  · rw [List.length_cons, size_eq]; omega
  · exact Nat.le_trans (Nat.le_refl _) (by simp; omega)
theorem textP_size {t : Tg} (h0 : -9223372036854775808 ≤ t.port) (h1 : t.port ≤ 9223372036854775807) : (textP t).2.size ≤ t.host.size + t.path.size + t.query.size + 100 := by
  have hp := portT_len h0 h1
  have ht := tailT_len t
  have z1 : httpT.data.toList.length = 7 := rfl
  have z2 : starT.data.toList.length = 1 := rfl
  unfold textP
  split
  · show (mkT _).size ≤ _; rw [mkT_size]; omega
  · split
    · show (mkT _).size ≤ _; rw [mkT_size]; simp only [List.length_append, size_eq] at *; omega
    · split
      · show (mkT _).size ≤ _; rw [mkT_size]; simp only [List.length_append, size_eq] at *; omega
      · split
        · show (mkT _).size ≤ _; rw [mkT_size]; simp only [List.length_append, size_eq] at *; omega
        · show (mkT _).size ≤ _; rw [mkT_size]; simp only [List.length_append] at *; omega
theorem textQ_size {t : Tg} (h0 : -9223372036854775808 ≤ t.port) (h1 : t.port ≤ 9223372036854775807) : (textQ t).2.size ≤ t.host.size + t.path.size + t.query.size + 100 := by
  have hp := portT_len h0 h1
  have ht := tailT_len t
  have z1 : httpT.data.toList.length = 7 := rfl
  unfold textQ
  split
  · show (mkT _).size ≤ _; rw [mkT_size]; omega
  · split
    · show (mkT _).size ≤ _; rw [mkT_size]; simp only [List.length_append, size_eq] at *; omega
    · split
      · show (mkT _).size ≤ _; rw [mkT_size]; simp only [List.length_append, size_eq] at *; omega
      · show 1 ≤ _; omega
set_option maxRecDepth 100000 in
theorem given_any (f : Int) (h : ByteArray) (p : Int) (pa qu : ByteArray) (hq : Bool) (w : World) :
    Calls Tryz.prog 12 #[.agg #[.int .i64 f, .string h, .int .i64 p, .string pa, .string qu, .bool hq]] w fun e w' => e = .returned (.agg #[.int .i64 f, .string h, .int .i64 p, .string pa, .string qu, .bool hq]) ∧ Below w.heap.size w w' := by
  go_enter Tryz.func12, Tryz.ntmps12
  go_wp2
  exact bodyPost_ret (v := .agg #[.int .i64 f, .string h, .int .i64 p, .string pa, .string qu, .bool hq]) (by simp [results, Tryz.results12, go_sem]) rfl ⟨rfl, by (repeat (first | (with_reducible refine Below.setCell ?_ (by simp) _) | (with_reducible refine Below.alloc ?_ (by simp) _))); exact Below.refl _ _⟩
set_option maxRecDepth 100000 in
set_option maxHeartbeats 4000000 in
theorem TargetPrints_walk (t : Tg) (w : World) (ht : (-9223372036854775808 ≤ t.form ∧ t.form ≤ 9223372036854775807) ∧ (-9223372036854775808 ≤ t.port ∧ t.port ≤ 9223372036854775807)) (hk : t.host.size + t.path.size + t.query.size ≤ 1048576) (hg : Glob w) :
    Calls Tryz.prog 3 #[t.val] w fun e w' => e = .returned (.bool true) ∧ Below w.heap.size w w' := by
  obtain ⟨_, h0, h1⟩ := ht
  have s1 := textP_size h0 h1
  have s2 := textQ_size h0 h1
  have HP := Lib.hid (fun w hg => Printx_any t w hg h0 h1 (by omega))
  have HR := Lib.hid (fun w => rPrint_any t w h0 h1 ⟨by omega, by omega, by omega⟩ (by omega))
  rw [← print_same] at HR
  clear s1 s2 hk h0 h1
  generalize printWith (textP t) t = r at *
  obtain ⟨x, er⟩ := r
  obtain ⟨f, h, p, pa, qu, hq⟩ := t
  have HG := Lib.hid (fun w => given_any f h p pa qu hq w)
  unfold Tg.val at HP HR
  unfold Tg.val
  dsimp only at HP HR
  dsimp only
  go_enter Tryz.func3, Tryz.ntmps3
  go_wp2_with fail
  have hg1 : Glob (w.alloc (.cells #[.int .i64 f, .string h, .int .i64 p, .string pa, .string qu, .bool hq] 23)) := hg.alloc _
  refine (HP.out _ hg1).mono ?_
  rintro e w1 ⟨rfl, b1⟩
  have B1 : Below (w.heap.size + 1) (w.alloc (.cells #[.int .i64 f, .string h, .int .i64 p, .string pa, .string qu, .bool hq] 23)) w1 := by simpa using b1
  obtain ⟨c0, _⟩ := box6 B1 0
  obtain ⟨c1, _⟩ := box6 B1 1
  obtain ⟨c2, _⟩ := box6 B1 2
  obtain ⟨c3, _⟩ := box6 B1 3
  obtain ⟨c4, _⟩ := box6 B1 4
  obtain ⟨c5, _⟩ := box6 B1 5
  have hbw := below_box B1
  clear b1 B1
  go_wp2_with fail
  refine (HG.out _).mono ?_
  rintro e w2 ⟨rfl, b2⟩
  go_wp2_with fail
  refine (HR.out _).mono ?_
  rintro e w3 ⟨rfl, b3⟩
  go_wp2_with fail
  refine (awake_any _).mono ?_
  rintro e w4 ⟨rfl, b4⟩
  have hb2 := hbw.trans (b2.mono hbw.size)
  have hb3 := hb2.trans (b3.mono hb2.size)
  have hb4 := hb3.trans (b4.mono hb3.size)
  clear b2 b3 b4 hb2 hb3 hbw c0 c1 c2 c3 c4 c5
  go_wp2
  go_ret
  exact ⟨rfl, hb4⟩
end Go.Proofs.YtjlnbjlhlglneaaGreatDoor
