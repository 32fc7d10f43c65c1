/-
  Printing any target: the program's function and the reference's.
-/
import Derived.Test.YtjlnbjlhlglneaaGreatDoorTgPxa
import Derived.Test.YtjlnbjlhlglneaaGreatDoorTgPxb
import Derived.Test.YtjlnbjlhlglneaaGreatDoorTgTy
namespace Go.Proofs.YtjlnbjlhlglneaaGreatDoor
open Go.RowKit Go.Shelf Go.Lib

theorem Printx_any (t : Tg) (w : World) (hg : Glob w) (h0 : -9223372036854775808 ≤ t.port) (h1 : t.port ≤ 9223372036854775807) (hs : (textP t).2.size ≤ 4194304) :
    Calls Tryz.prog 10 #[t.val] w fun e w' => e = .returned (.tuple #[.string (printWith (textP t) t).1, .int .i64 (printWith (textP t) t).2]) ∧ Below w.heap.size w w' := by
  obtain ⟨f, h, p, pa, qu, hq⟩ := t
  change -9223372036854775808 ≤ p at h0
  change p ≤ 9223372036854775807 at h1
  by_cases hp : p = -1
  · subst hp
    by_cases f1 : f = 1
    · subst f1; cases hq
      · exact Printx_1nn h pa qu w hg hs
      · exact Printx_1nq h pa qu w hg hs
    · by_cases f2 : f = 2
      · subst f2; cases hq
        · exact Printx_2nn h pa qu w hg hs
        · exact Printx_2nq h pa qu w hg hs
      · by_cases f3 : f = 3
        · subst f3; cases hq
          · exact Printx_3nn h pa qu w hg hs
          · exact Printx_3nq h pa qu w hg hs
        · by_cases f4 : f = 4
          · subst f4; cases hq
            · exact Printx_4nn h pa qu w hg hs
            · exact Printx_4nq h pa qu w hg hs
          · cases hq
            · exact Printx_0nn f h pa qu w hg ⟨f1, f2, f3, f4⟩ hs
            · exact Printx_0nq f h pa qu w hg ⟨f1, f2, f3, f4⟩ hs
  · by_cases f1 : f = 1
    · subst f1; cases hq
      · exact Printx_1pn h pa qu p w hg hp hs
      · exact Printx_1pq h pa qu p w hg hp hs
    · by_cases f2 : f = 2
      · subst f2; cases hq
        · exact Printx_2pn h pa qu p w hg hp h0 h1 hs
        · exact Printx_2pq h pa qu p w hg hp h0 h1 hs
      · by_cases f3 : f = 3
        · subst f3; cases hq
          · exact Printx_3pn h pa qu p w hg hp h0 h1 hs
          · exact Printx_3pq h pa qu p w hg hp h0 h1 hs
        · by_cases f4 : f = 4
          · subst f4; cases hq
            · exact Printx_4pn h pa qu p w hg hp h0 h1 hs
            · exact Printx_4pq h pa qu p w hg hp h0 h1 hs
          · cases hq
            · exact Printx_0pn f h pa qu p w hg ⟨f1, f2, f3, f4⟩ hp h0 h1 hs
            · exact Printx_0pq f h pa qu p w hg ⟨f1, f2, f3, f4⟩ hp h0 h1 hs

set_option maxRecDepth 100000 in
set_option maxHeartbeats 4000000 in
theorem rPrint_any (t : Tg) (w : World) (h0 : -9223372036854775808 ≤ t.port) (h1 : t.port ≤ 9223372036854775807) (hz : t.host.size ≤ 4194304 ∧ t.path.size ≤ 4194304 ∧ t.query.size ≤ 4194304) (hs : (textQ t).2.size ≤ 4194304) :
    Calls Tryz.prog 11 #[t.val] w fun e w' => e = .returned (.tuple #[.string (printWith (textQ t) t).1, .int .i64 (printWith (textQ t) t).2]) ∧ Below w.heap.size w w' := by
  have HT := Lib.hid (fun w => Text_any t w h0 h1 hz)
  have HR := Lib.hid (fun w => Rparse_any (textQ t).1 (textQ t).2 w hs)
  have HY := Lib.hid (fun h1 h2 => print_yes (x := textQ t) (t := t) h1 h2)
  have HN := Lib.hid (fun h1 => print_no (x := textQ t) (t := t) h1)
  clear hs hz h0 h1
  generalize textQ t = x at *
  obtain ⟨m, x⟩ := x
  dsimp only at HT HR HY HN
  generalize parseT m x = r at *
  obtain ⟨⟨f0, h0, p0, pa0, qu0, hq0⟩, i0, er⟩ := r
  have HPT := Lib.hid (fun (w : World) => eq_rtgt ⟨f0, h0, p0, pa0, qu0, hq0⟩ t w)
  obtain ⟨f, h, p, pa, qu, hq⟩ := t
  unfold tgVal Tg.val at HR
  unfold Tg.val at HT HPT
  dsimp only at HT HR HY HN HPT
  unfold Tg.val
  dsimp only
  go_enter Tryz.func11, Tryz.ntmps11
  go_wp2_with fail
  refine (HT.out _).mono ?_
  rintro e w1 ⟨rfl, b1⟩
  go_wp2_with fail
  refine (HR.out _).mono ?_
  rintro e w2 ⟨rfl, b2⟩
  have b3 := b1.trans (b2.mono b1.size)
  have B0 : Below (w.heap.size + 1) (w.alloc (.cells #[.int .i64 f, .string h, .int .i64 p, .string pa, .string qu, .bool hq] 29)) w2 := by simpa using b3
  obtain ⟨c0, _⟩ := box6 B0 0
  obtain ⟨c1, _⟩ := box6 B0 1
  obtain ⟨c2, _⟩ := box6 B0 2
  obtain ⟨c3, _⟩ := box6 B0 3
  obtain ⟨c4, _⟩ := box6 B0 4
  obtain ⟨c5, _⟩ := box6 B0 5
  have hsz := box_size B0
  have hbw := below_box B0
  clear b1 b2 b3 B0
  by_cases her : er = 0
  · subst her
    by_cases hsm : (⟨f0, h0, p0, pa0, qu0, hq0⟩ : Tg) = ⟨f, h, p, pa, qu, hq⟩
    · have HB := Lib.hid (HY.out rfl hsm)
      have HE : ∀ w : World, (Op.equalIn 10000 29 (.agg #[.int .i64 f0, .string h0, .int .i64 p0, .string pa0, .string qu0, .bool hq0]) (.agg #[.int .i64 f, .string h, .int .i64 p, .string pa, .string qu, .bool hq])).run Tryz.prog w = .ok true w := fun w => (HPT.out w).trans (by rw [sameTg_iff.2 hsm])
      clear hsm HPT HY HN
      go_wp2
      go_ret2
      exact ⟨by rw [HB.out]; rfl, by (repeat (first | (with_reducible refine Below.setCell ?_ (by simp) _) | (with_reducible refine Below.alloc ?_ (by omega) _))); exact hbw⟩
    · have HB := Lib.hid (HN.out (.inr hsm))
      have HE : ∀ w : World, (Op.equalIn 10000 29 (.agg #[.int .i64 f0, .string h0, .int .i64 p0, .string pa0, .string qu0, .bool hq0]) (.agg #[.int .i64 f, .string h, .int .i64 p, .string pa, .string qu, .bool hq])).run Tryz.prog w = .ok false w := fun w => (HPT.out w).trans (by rw [Bool.eq_false_iff.2 (fun h => hsm (sameTg_iff.1 h))])
      clear hsm HPT HY HN
      go_wp2
      go_ret2
      exact ⟨by rw [HB.out]; rfl, by (repeat (first | (with_reducible refine Below.setCell ?_ (by simp) _) | (with_reducible refine Below.alloc ?_ (by omega) _))); exact hbw⟩
  · have HB := Lib.hid (HN.out (.inl her))
    have hne2 : (er != 0) = true := by simpa using her
    clear her HPT HY HN
    go_wp2
    go_ret2
    exact ⟨by rw [HB.out]; rfl, by (repeat (first | (with_reducible refine Below.setCell ?_ (by simp) _) | (with_reducible refine Below.alloc ?_ (by omega) _))); exact hbw⟩
end Go.Proofs.YtjlnbjlhlglneaaGreatDoor
