/-
  The text of a target: the reference's function at any target.
-/
import Derived.Test.YtjlnbjlhlglneaaGreatDoorTgTx
namespace Go.Proofs.YtjlnbjlhlglneaaGreatDoor
open Go.RowKit Go.Shelf Go.Lib

theorem Text_any (t : Tg) (w : World) (h0 : -9223372036854775808 ≤ t.port) (h1 : t.port ≤ 9223372036854775807) (hz : t.host.size ≤ 4194304 ∧ t.path.size ≤ 4194304 ∧ t.query.size ≤ 4194304) :
    Calls Tryz.prog 29 #[t.val] w fun e w' => e = .returned (.tuple #[.string (textQ t).1, .string (textQ t).2]) ∧ Below w.heap.size w w' := by
  obtain ⟨f, h, p, pa, qu, hq⟩ := t
  change -9223372036854775808 ≤ p at h0
  change p ≤ 9223372036854775807 at h1
  by_cases hp : p = -1
  · subst hp
    by_cases f1 : f = 1
    · subst f1; cases hq
      · exact Text_1nn h pa qu w hz
      · exact Text_1nq h pa qu w hz
    · by_cases f2 : f = 2
      · subst f2; cases hq
        · exact Text_2nn h pa qu w hz
        · exact Text_2nq h pa qu w hz
      · by_cases f3 : f = 3
        · subst f3; cases hq
          · exact Text_3nn h pa qu w hz
          · exact Text_3nq h pa qu w hz
        · cases hq
          · exact Text_0nn f h pa qu w ⟨f1, f2, f3⟩ hz
          · exact Text_0nq f h pa qu w ⟨f1, f2, f3⟩ hz
  · by_cases f1 : f = 1
    · subst f1; cases hq
      · exact Text_1pn h pa qu p w hp h0 h1 hz
      · exact Text_1pq h pa qu p w hp h0 h1 hz
    · by_cases f2 : f = 2
      · subst f2; cases hq
        · exact Text_2pn h pa qu p w hp h0 h1 hz
        · exact Text_2pq h pa qu p w hp h0 h1 hz
      · by_cases f3 : f = 3
        · subst f3; cases hq
          · exact Text_3pn h pa qu p w hp h0 h1 hz
          · exact Text_3pq h pa qu p w hp h0 h1 hz
        · cases hq
          · exact Text_0pn f h pa qu p w ⟨f1, f2, f3⟩ hp h0 h1 hz
          · exact Text_0pq f h pa qu p w ⟨f1, f2, f3⟩ hp h0 h1 hz
end Go.Proofs.YtjlnbjlhlglneaaGreatDoor
