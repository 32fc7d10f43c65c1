/-
  The walk of TargetParses.
-/
import Derived.Test.YtjlnbjlhlglneaaDoorTgRp
namespace Go.Proofs.YtjlnbjlhlglneaaDoor
open Go.RowKit Go.Shelf Go.Lib

set_option maxRecDepth 100000 in
set_option maxHeartbeats 4000000 in
theorem alike_tg (t : Tg) (w : World) :
    Calls Tryd.prog 13 #[t.val, t.val] w fun e w' => e = .returned (.bool true) ∧ Below w.heap.size w w' := by
  obtain ⟨f, h, p, pa, qu, hq⟩ := t
  unfold Tg.val
  dsimp only
  go_enter Tryd.func13, Tryd.ntmps13
  go_wp2_with fail
  go_ret
  exact ⟨rfl, ((Below.refl _ _).alloc (Nat.le_refl _) _).alloc (by simp) _⟩
set_option maxRecDepth 100000 in
set_option maxHeartbeats 4000000 in
theorem TargetParses_walk (m s : ByteArray) (w : World) (_hm : m.size ≤ maxLen) (_hs : s.size ≤ maxLen) (hk : m.size + s.size ≤ 1048576) (hg : Glob w) :
    Calls Tryd.prog 3 #[.string m, .string s] w fun e w' => e = .returned (.bool true) ∧ Below w.heap.size w w' := by
  have HA := Lib.hid (Parse_any m s w (by omega) hg)
  have HP := Lib.hid (fun w => Rparse_any m s w (by omega))
  have HL := Lib.hid (fun w => alike_tg (parseT m s).1 w)
  generalize parseT m s = r at *
  obtain ⟨⟨f, h, p, pa, qu, hq⟩, i, er⟩ := r
  unfold tgVal at HA HP
  unfold Tg.val at HA HP HL
  dsimp only at HA HP HL
  go_enter Tryd.func3, Tryd.ntmps3
  go_wp2_with fail
  refine HA.out.mono ?_
  rintro e w1 ⟨rfl, b1⟩
  go_wp2_with fail
  refine (HP.out _).mono ?_
  rintro e w2 ⟨rfl, b2⟩
  have B2 : Below (w1.heap.size + 1) (w1.alloc (.cells #[.int .i64 f, .string h, .int .i64 p, .string pa, .string qu, .bool hq] 23)) w2 := by simpa using b2
  have D2 : Below w.heap.size w w2 := b1.trans ((below_box B2).mono b1.size)
  have hz2 := box_size B2
  clear b2
  go_wp2_with fail
  refine (awake_any _).mono ?_
  rintro e w3 ⟨rfl, b3⟩
  have B3 : Below (w2.heap.size + 1) (w2.alloc (.cells #[.int .i64 f, .string h, .int .i64 p, .string pa, .string qu, .bool hq] 27)) w3 := by simpa using b3
  have D3 : Below w.heap.size w w3 := D2.trans ((below_box B3).mono D2.size)
  have B4 : Below (w1.heap.size + 1) (w1.alloc (.cells #[.int .i64 f, .string h, .int .i64 p, .string pa, .string qu, .bool hq] 23)) w3 := B2.trans ((below_box B3).mono (by omega))
  obtain ⟨c0, _⟩ := box6 B3 0
  obtain ⟨c1, _⟩ := box6 B3 1
  obtain ⟨c2, _⟩ := box6 B3 2
  obtain ⟨c3, _⟩ := box6 B3 3
  obtain ⟨c4, _⟩ := box6 B3 4
  obtain ⟨c5, _⟩ := box6 B3 5
  obtain ⟨d0, _⟩ := box6 B4 0
  obtain ⟨d1, _⟩ := box6 B4 1
  obtain ⟨d2, _⟩ := box6 B4 2
  obtain ⟨d3, _⟩ := box6 B4 3
  obtain ⟨d4, _⟩ := box6 B4 4
  obtain ⟨d5, _⟩ := box6 B4 5
  clear b3 B2 B3 B4 D2
  go_wp2_with fail
  refine (HL.out _).mono ?_
  rintro e w4 ⟨rfl, b4⟩
  go_wp2
  go_ret
  exact ⟨rfl, D3.trans (b4.mono D3.size)⟩
end Go.Proofs.YtjlnbjlhlglneaaDoor
