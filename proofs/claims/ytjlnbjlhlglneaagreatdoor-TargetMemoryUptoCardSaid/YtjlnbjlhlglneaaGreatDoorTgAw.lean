/-
  Reading a target that begins with a slash; the statements' own first look.
-/
import Derived.Test.YtjlnbjlhlglneaaGreatDoorTgBh
namespace Go.Proofs.YtjlnbjlhlglneaaGreatDoor
open Go.RowKit Go.Shelf Go.Lib

/-- A box of six cells that the call laid, seen behind a callee that leaves old blocks alone. -/
theorem box6 {w w1 : World} {cs : Array Value} {t : TypeId} (h : Below (w.heap.size + 1) (w.alloc (.cells cs t)) w1) (k : Nat) : w1.cell? ⟨w.heap.size, k, none⟩ = cs[k]? ∧ w1.frozen? ⟨w.heap.size, k, none⟩ = false := by
  refine ⟨?_, ?_⟩
  · rw [h.cell (p := ⟨w.heap.size, k, none⟩) (by simp), World.cell?_alloc_new]
  · rw [h.frozen (p := ⟨w.heap.size, k, none⟩) (by simp)]; simp
theorem box_size {w w1 : World} {o : Obj} (h : Below (w.heap.size + 1) (w.alloc o) w1) : w.heap.size < w1.heap.size := by have := h.size; simp at this; omega
theorem below_box {w w1 : World} {o : Obj} (h : Below (w.heap.size + 1) (w.alloc o) w1) : Below w.heap.size w w1 :=
  ((Below.refl w.heap.size w).alloc (Nat.le_refl _) o).trans (h.mono (by omega))
theorem conn_list : connT.toList = [67, 79, 78, 78, 69, 67, 84] := by decide +kernel
theorem originR {m s : ByteArray} (h0 : ¬ s.size = 0) (hm : m ≠ connT) (h47 : bt s 0 = 47) : parseT m s = behindR (Tg.with_ 1 ⟨#[]⟩ (-1)) s 0 := by
  unfold parseT
  rw [if_neg h0, if_neg hm, if_pos h47]
  rfl
set_option maxRecDepth 100000 in
set_option maxHeartbeats 4000000 in
theorem Parse_origin (m s : ByteArray) (w : World) (hs : s.size ≤ 1099511627776) (h0 : ¬ s.size = 0) (hm : m ≠ connT) (h47 : bt s 0 = 47) :
    Calls Tryz.prog 28 #[.string m, .string s] w fun e w' => e = .returned (tgVal (parseT m s)) ∧ Below w.heap.size w w' := by
  have he : s.toList.isEmpty = false := by rw [empty_eq]; exact decide_eq_false h0
  have hmm : (m.toList == [67, 79, 78, 78, 69, 67, 84]) = false := by rw [← conn_list]; exact (eq_str m connT).trans (decide_eq_false hm)
  have hb := @bt_eq s 0 (by omega)
  have h4 : (bt s 0 == 47) = true := by rw [h47]; rfl
  have hB := Lib.hid (fun w => behind_any 1 ⟨#[]⟩ (-1) s 0 w hs (by omega))
  rw [originR h0 hm h47]
  rw [show (Tg.with_ 1 ⟨#[]⟩ (-1)).val = .agg #[.int .i64 1, .string ⟨#[]⟩, .int .i64 (-1), .string ⟨#[]⟩, .string ⟨#[]⟩, .bool false] from rfl] at hB
  generalize behindR (Tg.with_ 1 ⟨#[]⟩ (-1)) s 0 = r at *
  obtain ⟨⟨f, h, p, pa, qu, hq⟩, i, er⟩ := r
  unfold tgVal Tg.val at hB
  dsimp only at hB
  rw [show ((0 : Nat) : Int) = 0 from rfl] at hB
  have hpos : 0 < s.size := by omega
  clear hm h47
  go_enter Tryz.func28, Tryz.ntmps28
  go_wp2_with fail
  refine (hB.out _).mono ?_
  rintro e w1 ⟨rfl, b1⟩
  have b1' : Below (w.heap.size + 1) (w.alloc (.cells #[.int .i64 0, .string ⟨#[]⟩, .int .i64 0, .string ⟨#[]⟩, .string ⟨#[]⟩, .bool false] 23)) w1 := by simpa using b1
  obtain ⟨c0, f0⟩ := box6 b1' 0
  obtain ⟨c1, f1⟩ := box6 b1' 1
  obtain ⟨c2, f2⟩ := box6 b1' 2
  obtain ⟨c3, f3⟩ := box6 b1' 3
  obtain ⟨c4, f4⟩ := box6 b1' 4
  obtain ⟨c5, f5⟩ := box6 b1' 5
  have hsz := box_size b1'
  have hbw := below_box b1'
  clear b1 b1'
  go_wp2
  exact bodyPost_ret (v := tgVal (⟨f, h, p, pa, qu, hq⟩, i, er)) (by simp [results, Tryz.results28, go_sem, tgVal, Tg.val, c0, c1, c2, c3, c4, c5]) rfl ⟨rfl, by (repeat (first | (with_reducible refine Below.setCell ?_ (by simp) _))); exact hbw⟩
theorem below_box' {w0 w w1 : World} {o : Obj} (hb : Below w0.heap.size w0 w) (h : Below (w.heap.size + 1) (w.alloc o) w1) : Below w0.heap.size w w1 := (below_box h).mono hb.size
theorem awake_parse : parseT ⟨#[71, 69, 84]⟩ ⟨#[47, 97, 63, 98]⟩ = (⟨1, ⟨#[]⟩, -1, ⟨#[47, 97]⟩, ⟨#[98]⟩, true⟩, 0, 0) := by
  have h1 : sameTg (parseT ⟨#[71, 69, 84]⟩ ⟨#[47, 97, 63, 98]⟩).1 ⟨1, ⟨#[]⟩, -1, ⟨#[47, 97]⟩, ⟨#[98]⟩, true⟩ = true := by decide +kernel
  have h2 : (parseT ⟨#[71, 69, 84]⟩ ⟨#[47, 97, 63, 98]⟩).2 = (0, 0) := by decide +kernel
  exact Prod.ext (sameTg_iff.1 h1) h2
theorem awake_enc : enc ⟨#[97, 32, 98]⟩ = ⟨#[97, 37, 50, 48, 98]⟩ := by decide +kernel
set_option maxRecDepth 100000 in
set_option maxHeartbeats 4000000 in
theorem awake_any (w : World) :
    Calls Tryz.prog 13 #[] w fun e w' => e = .returned (.bool true) ∧ Below w.heap.size w w' := by
  have HP := Lib.hid (Parse_origin ⟨#[71, 69, 84]⟩ ⟨#[47, 97, 63, 98]⟩ w (by decide) (by decide) (by decide) (by decide))
  rw [awake_parse] at HP
  unfold tgVal Tg.val at HP
  dsimp only at HP
  rw [show ((0 : Nat) : Int) = 0 from rfl] at HP
  have HE := Lib.hid (fun w => Encode_any ⟨#[97, 32, 98]⟩ w (by decide))
  rw [awake_enc] at HE
  go_enter Tryz.func13, Tryz.ntmps13
  go_wp2_with fail
  refine HP.out.mono ?_
  rintro e w1 ⟨rfl, b1⟩
  go_wp2_with fail
  refine (HE.out _).mono ?_
  rintro e w2 ⟨rfl, b2⟩
  have hb2 : Below w.heap.size w w2 := b1.trans (below_box' b1 (by simpa using b2))
  go_wp2
  go_ret
  exact ⟨rfl, hb2⟩
end Go.Proofs.YtjlnbjlhlglneaaGreatDoor
