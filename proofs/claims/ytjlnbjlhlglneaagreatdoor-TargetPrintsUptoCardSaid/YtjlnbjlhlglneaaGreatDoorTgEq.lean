/-
  Two targets held against each other: the operation of the program and of the reference.
-/
import Derived.Test.YtjlnbjlhlglneaaGreatDoorTgBh
import Derived.Laws.StructEq
namespace Go.Proofs.YtjlnbjlhlglneaaGreatDoor
open Go.RowKit Go.Shelf Go.Lib

theorem same_bool (a b : Tg) : sameTg a b = (a.form == b.form && (a.host.toList == b.host.toList && (a.port == b.port && (a.path.toList == b.path.toList && (a.query.toList == b.query.toList && a.hasq == b.hasq))))) := by
  unfold sameTg
  rw [eq_str, eq_str, eq_str]
  have hi : ∀ x y : Int, (x == y) = decide (x = y) := fun x y => rfl
  have hb : ∀ x y : Bool, (x == y) = decide (x = y) := by decide
  rw [hi, hi, hb]
  simp only [Bool.and_assoc]
theorem eq_tgt (a b : Tg) (w : World) : (Op.equalIn 10000 23 a.val b.val).run Tryz.prog w = .ok (sameTg a b) w := by
  rw [same_bool]
  unfold Tg.val
  rw [show (10000 : Nat) = 9999 + 1 from rfl, run_equalIn_agg w 9999 23 _ _ (by kernel_rfl) (by kernel_rfl)]
  simp only [Program.fieldsOf, Tryz.underlying23]
  go_simp
  obtain ⟨f, h, p, pa, qu, hq⟩ := a
  obtain ⟨f', h', p', pa', qu', hq'⟩ := b
  dsimp only
  by_cases h1 : f = f' <;> by_cases h2 : h.toList = h'.toList <;> by_cases h3 : p = p' <;> by_cases h4 : pa.toList = pa'.toList <;> by_cases h5 : qu.toList = qu'.toList <;> by_cases h6 : hq = hq' <;> simp [h1, h2, h3, h4, h5, h6]
theorem eq_rtgt (a b : Tg) (w : World) : (Op.equalIn 10000 29 a.val b.val).run Tryz.prog w = .ok (sameTg a b) w := by
  rw [same_bool]
  unfold Tg.val
  rw [show (10000 : Nat) = 9999 + 1 from rfl, run_equalIn_agg w 9999 29 _ _ (by kernel_rfl) (by kernel_rfl)]
  simp only [Program.fieldsOf, Tryz.underlying29]
  go_simp
  obtain ⟨f, h, p, pa, qu, hq⟩ := a
  obtain ⟨f', h', p', pa', qu', hq'⟩ := b
  dsimp only
  by_cases h1 : f = f' <;> by_cases h2 : h.toList = h'.toList <;> by_cases h3 : p = p' <;> by_cases h4 : pa.toList = pa'.toList <;> by_cases h5 : qu.toList = qu'.toList <;> by_cases h6 : hq = hq' <;> simp [h1, h2, h3, h4, h5, h6]
end Go.Proofs.YtjlnbjlhlglneaaGreatDoor
