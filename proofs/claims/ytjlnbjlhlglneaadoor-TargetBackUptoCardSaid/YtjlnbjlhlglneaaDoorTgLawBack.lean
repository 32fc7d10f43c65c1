/-
  The walk of TargetBack.
-/
import Derived.Test.YtjlnbjlhlglneaaDoorTgPt
import Derived.Test.YtjlnbjlhlglneaaDoorTgLawParses
namespace Go.Proofs.YtjlnbjlhlglneaaDoor
open Go.RowKit Go.Shelf Go.Lib

theorem Print_back (t : Tg) (w : World) (hg : Glob w) (h : Shape t) (hb : parseT (textP t).1 (textP t).2 = (t, 0, 0)) (hs : (textP t).2.size ≤ 4194304) :
    Calls Tryd.prog 21 #[t.val] w fun e w' => e = .returned (.tuple #[.string (textP t).2, .int .i64 0]) ∧ Below w.heap.size w w' := by
  obtain ⟨f, h0, p, pa, qu, hq⟩ := t
  rcases h with ⟨h1, h2⟩ | ⟨h1, h2⟩ | ⟨h1, h2, h3⟩ | ⟨h1, h2, h3⟩
  · change f = 1 at h1
    change p = -1 at h2
    subst h1
    subst h2
    cases hq
    · exact Print_a h0 pa qu w hg hs hb
    · exact Print_b h0 pa qu w hg hs hb
  · change f = 2 at h1
    change portOk p at h2
    subst h1
    rcases h2 with rfl | h2
    · cases hq
      · exact Print_c h0 pa qu w hg hs hb
      · exact Print_d h0 pa qu w hg hs hb
    · cases hq
      · exact Print_e h0 pa qu p w h2 hg hs hb
      · exact Print_f h0 pa qu p w h2 hg hs hb
  · change f = 3 at h1
    change hq = false at h3
    subst h1
    subst h3
    exact Print_g h0 pa qu p w h2 hg hs hb
  · change f = 4 at h1
    change p = -1 at h2
    change hq = false at h3
    subst h1
    subst h2
    subst h3
    exact Print_h h0 pa qu w hg hs hb
theorem below_next {B : Nat} {w w1 w2 : World} {o : Obj} (h : Below B w w1) (hB : B ≤ w1.heap.size) (h2 : Below (w1.heap.size + 1) (w1.alloc o) w2) : Below B w w2 := h.trans ((below_box h2).mono hB)
set_option maxRecDepth 100000 in
set_option maxHeartbeats 4000000 in
theorem TargetBack_walk (m s : ByteArray) (w : World) (_hm : m.size ≤ maxLen) (_hs : s.size ≤ maxLen) (hk : m.size + s.size ≤ 1048576) (hg : Glob w) :
    Calls Tryd.prog 7 #[.string m, .string s] w fun e w' => e = .returned (.bool true) ∧ Below w.heap.size w w' := by
  have HA := Lib.hid (Parse_any m s w (by omega) hg)
  by_cases hz : (parseT m s).2.2 = 0
  · have hr : parseT m s = ((parseT m s).1, (parseT m s).2.1, 0) := by rw [← hz]
    obtain ⟨k1, k2, k3, k4⟩ := back hr
    have HP := Lib.hid (fun w hg => Print_back (parseT m s).1 w hg k1 k2 (by omega))
    have HR := Lib.hid (fun w hg => Parse_any m (textP (parseT m s).1).2 w (by omega) hg)
    rw [k3] at HR
    rw [hr] at HA
    clear k1 k2 k3 k4 hr hz
    generalize (textP (parseT m s).1).2 = x at *
    generalize parseT m s = r at *
    obtain ⟨⟨f, h, p, pa, qu, hq⟩, i, er⟩ := r
    unfold tgVal Tg.val at HA HR
    unfold Tg.val at HP
    dsimp only at HA HP HR
    rw [show ((0 : Nat) : Int) = 0 from rfl] at HR
    go_enter Tryd.func7, Tryd.ntmps7
    go_wp2_with fail
    refine HA.out.mono ?_
    rintro e w1 ⟨rfl, b1⟩
    have hg1 : Glob (w1.alloc (.cells #[.int .i64 f, .string h, .int .i64 p, .string pa, .string qu, .bool hq] 23)) := (hg.beyond b1).alloc _
    go_wp2_with fail
    refine (HP.out _ hg1).mono ?_
    rintro e w2 ⟨rfl, b2⟩
    have B2 : Below (w1.heap.size + 1) (w1.alloc (.cells #[.int .i64 f, .string h, .int .i64 p, .string pa, .string qu, .bool hq] 23)) w2 := by simpa using b2
    have D2 : Below w.heap.size w w2 := below_next b1 b1.size B2
    have hg2 := hg1.beyond b2
    have hz2 := box_size B2
    clear b2 hg1
    go_wp2_with fail
    refine (HR.out _ hg2).mono ?_
    rintro e w3 ⟨rfl, b3⟩
    have B3 : Below (w1.heap.size + 1) (w1.alloc (.cells #[.int .i64 f, .string h, .int .i64 p, .string pa, .string qu, .bool hq] 23)) w3 := B2.trans (b3.mono (by omega))
    have D3 := D2.trans (b3.mono D2.size)
    have hz3 := box_size B3
    clear b3 B2 D2 hg2
    go_wp2_with fail
    refine (awake_any _).mono ?_
    rintro e w4 ⟨rfl, b4⟩
    have B4 : Below (w3.heap.size + 1) (w3.alloc (.cells #[.int .i64 f, .string h, .int .i64 p, .string pa, .string qu, .bool hq] 23)) w4 := by simpa using b4
    have D4 : Below w.heap.size w w4 := below_next D3 D3.size B4
    have C4 : Below (w1.heap.size + 1) (w1.alloc (.cells #[.int .i64 f, .string h, .int .i64 p, .string pa, .string qu, .bool hq] 23)) w4 := B3.trans ((below_box B4).mono (by omega))
    obtain ⟨c0, _⟩ := box6 B4 0
    obtain ⟨c1, _⟩ := box6 B4 1
    obtain ⟨c2, _⟩ := box6 B4 2
    obtain ⟨c3, _⟩ := box6 B4 3
    obtain ⟨c4, _⟩ := box6 B4 4
    obtain ⟨c5, _⟩ := box6 B4 5
    obtain ⟨d0, _⟩ := box6 C4 0
    obtain ⟨d1, _⟩ := box6 C4 1
    obtain ⟨d2, _⟩ := box6 C4 2
    obtain ⟨d3, _⟩ := box6 C4 3
    obtain ⟨d4, _⟩ := box6 C4 4
    obtain ⟨d5, _⟩ := box6 C4 5
    clear b4 B3 B4 C4
    go_wp2
    go_ret
    exact ⟨rfl, D4⟩
  · have HR := Lib.hid (fun w => Rparse_any m s w (by omega))
    generalize parseT m s = r at *
    obtain ⟨⟨f, h, p, pa, qu, hq⟩, i, er⟩ := r
    unfold tgVal Tg.val at HA HR
    dsimp only at HA HR
    have hne : (er != 0) = true := by simpa using hz
    clear hz
    go_enter Tryd.func7, Tryd.ntmps7
    go_wp2_with fail
    refine HA.out.mono ?_
    rintro e w1 ⟨rfl, b1⟩
    go_wp2_with fail
    refine (HR.out _).mono ?_
    rintro e w2 ⟨rfl, b2⟩
    have B2 : Below (w1.heap.size + 1) (w1.alloc (.cells #[.int .i64 f, .string h, .int .i64 p, .string pa, .string qu, .bool hq] 23)) w2 := by simpa using b2
    have D2 : Below w.heap.size w w2 := below_next b1 b1.size B2
    clear b2 B2
    go_wp2_with fail
    refine (awake_any _).mono ?_
    rintro e w3 ⟨rfl, b3⟩
    have B3 : Below (w2.heap.size + 1) (w2.alloc (.cells #[.int .i64 f, .string h, .int .i64 p, .string pa, .string qu, .bool hq] 27)) w3 := by simpa using b3
    have D3 : Below w.heap.size w w3 := below_next D2 D2.size B3
    clear b3 B3
    go_wp2
    go_ret
    exact ⟨rfl, D3⟩
end Go.Proofs.YtjlnbjlhlglneaaDoor
