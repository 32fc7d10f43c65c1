/-
  Reading a pattern: the walk of read, split and Check.
-/
import Derived.Test.YtkhgnfofinpofaaRxM
namespace Go.Proofs.Ytkhgnfofinpofaa
open Go.RowKit Go.Shelf Go.Lib

/-- What reading a pattern hands back. -/
def GivesRd (w : World) (r : Rd) (e : Ending) (w' : World) : Prop :=
  ∃ A c, e = .returned (.tuple #[.slice A r.1.length c, .int .i64 (r.2.1 : Int), .bool r.2.2]) ∧ w'.ownsRow w.heap.size 99 2 (.slice A r.1.length c) r.1.length (flatP r.1) ∧ Below w.heap.size w w'
theorem gives_bad {w w' : World} {r : Rd} {e : Nat} (h : r = ([], e, false)) (hb : Below w.heap.size w w') : GivesRd w r (.returned (.tuple #[.slice none 0 0, .int .i64 (e : Int), .bool false])) w' := by
  subst h
  exact ⟨none, 0, rfl, World.ownsRow_nil _ _ _ _, hb⟩
theorem gives_good {w w' : World} {r : Rd} {l : List Pc} {A : Option Addr} {c : Nat} (h : r = (l, 0, true)) (ho : w'.ownsRow w.heap.size 99 2 (.slice A l.length c) l.length (flatP l)) (hb : Below w.heap.size w w') : GivesRd w r (.returned (.tuple #[.slice A l.length c, .int .i64 0, .bool true])) w' := by
  subst h
  exact ⟨A, c, rfl, ho, hb⟩
theorem twice_zero {l : List Pc} {p : Pc} (h : p.1 = 0) : twice l p = false := by unfold twice; rw [decide_eq_true h]; rfl
theorem twice_any {l : List Pc} {p : Pc} (h : ¬ p.1 = 0) : twice l p = l.any (sameName p) := by unfold twice; rw [decide_eq_false h]; rfl
theorem wrong_not {s : ByteArray} {i e : Nat} (h : endAt s i = (e, false)) : wrongAt s i = true := by unfold wrongAt; rw [h]; rfl
theorem wrong_end {s : ByteArray} {i e : Nat} (h : endAt s i = (e, true)) (he : s.size ≤ e) : wrongAt s i = false := by
  unfold wrongAt
  rw [h]
  rw [show decide ((e, true).1 < s.size) = false from decide_eq_false (by simpa using he)]
  rfl
theorem wrong_rest {s : ByteArray} {i e : Nat} (h : endAt s i = (e, true)) (he : e < s.size) (hk : kindAt s i = 2) : wrongAt s i = true := by
  unfold wrongAt
  rw [h, hk, show decide ((e, true).1 < s.size) = true from decide_eq_true he]
  rfl
theorem wrong_slash {s : ByteArray} {i e : Nat} (h : endAt s i = (e, true)) (he : e < s.size) (hk : ¬ kindAt s i = 2) (hs : bt s e = 47) : wrongAt s i = false := by
  unfold wrongAt
  rw [h, decide_eq_false hk, show decide ((e, true).1 < s.size) = true from decide_eq_true he, show decide (bt s (e, true).1 = 47) = true from decide_eq_true hs]
  rfl
theorem wrong_other {s : ByteArray} {i e : Nat} (h : endAt s i = (e, true)) (he : e < s.size) (hs : ¬ bt s e = 47) : wrongAt s i = true := by
  unfold wrongAt
  rw [h, show decide ((e, true).1 < s.size) = true from decide_eq_true he, show decide (bt s (e, true).1 = 47) = false from decide_eq_false hs]
  cases decide (kindAt s i = 2) <;> rfl
theorem box_two {w w1 : World} {x y : Value} {t : TypeId} (h : Below (w.heap.size + 1) (w.alloc (.cells #[x, y] t)) w1) : w1.cell? ⟨w.heap.size, 0, none⟩ = some x ∧ w1.cell? ⟨w.heap.size, 1, none⟩ = some y := by
  refine ⟨?_, ?_⟩
  · rw [h.cell (p := ⟨w.heap.size, 0, none⟩) (by simp), World.cell?_alloc_new]; rfl
  · rw [h.cell (p := ⟨w.heap.size, 1, none⟩) (by simp), World.cell?_alloc_new]; rfl

set_option maxRecDepth 20000 in
set_option maxHeartbeats 8000000 in
theorem read_any (s : ByteArray) (w : World) (hs : s.size ≤ 4194304) :
    Calls Try.prog 63 #[.string s] w (GivesRd w (readP s)) := by
  obtain ⟨i0, hi0, hz0, hz1, hz2⟩ := info_parts info_piece
  have hmf : ∀ (fn : Fn) (first cap : Array Value) (w : World), (Instr.makeFunc fn first cap).run Try.prog w = .ok (.func fn first cap) w := fun _ _ _ _ => rfl
  by_cases h0 : s.size = 0
  · have he : s.toList.isEmpty = true := by rw [empty_eq]; exact decide_eq_true h0
    have HR := Lib.hid (readP_no (s := s) (by omega))
    clear h0
    go_enter Try.func63, Try.ntmps63
    go_wp2
    go_ret3
    exact gives_bad HR.out (Below.refl _ _)
  have he : s.toList.isEmpty = false := by rw [empty_eq]; exact decide_eq_false h0
  have hlt : 0 < s.size := by omega
  have hb := @bt_eq s 0 hlt
  by_cases h47 : bt s 0 = 47
  rotate_left
  · have HR := Lib.hid (readP_no (s := s) (by omega))
    have hh : (bt s 0 != 47) = true := by simpa using h47
    clear h0 h47
    go_enter Try.func63, Try.ntmps63
    go_wp2
    go_ret3
    exact gives_bad HR.out (Below.refl _ _)
  have hh : (bt s 0 != 47) = false := by rw [h47]; rfl
  have HR := Lib.hid (readP_yes (s := s) ⟨hlt, h47⟩)
  clear h0 h47
  go_enter Try.func63, Try.ntmps63
  go_wp2
  clear hb
  go_loopw [5, 6] (fun v i wr => ∃ (l : List Pc) (a : Nat), a ≤ s.size ∧ i = .int .i64 a ∧ l.length ≤ a ∧ wr.ownsRow w.heap.size 99 2 v l.length (flatP l) ∧ Hid (readF s l a = readP s) ∧ Below w.heap.size w wr) (fun _ i _ => s.size - (RowKit.intOf i).toNat)
  case atStart => exact ⟨[], 0, by omega, rfl, Nat.le_refl _, World.ownsRow_nil _ _ _ _, Lib.hid HR.out.symm, Below.refl _ _⟩
  case round =>
    obtain ⟨l, a, ha, rfl, hll, hown, HF, hbw⟩ := hrel
    by_cases hlt2 : a < s.size
    rotate_left
    · obtain rfl : a = s.size := by omega
      have HN := Lib.hid (HF.out.symm.trans (readF_end (Nat.le_refl _)))
      obtain ⟨A, c, rfl⟩ := own_slice hown
      go_wp2
      go_ret3
      exact gives_good HN.out hown hbw
    have hBAD := Lib.hid (fun (hb : (wrongAt s (a + 1) || twice l (pcAt s (a + 1))) = true) => HF.out.symm.trans (readF_bad hlt2 hb))
    have hNEXT := Lib.hid (fun (hb : (wrongAt s (a + 1) || twice l (pcAt s (a + 1))) = false) => (readF_on hlt2 hb).symm.trans HF.out)
    have hES := endAt_spec s (a + 1) (by omega)
    have hFG := fromAt_ge s (a + 1)
    have c1 : ((a + 1 : Nat) : Int) = (a : Int) + 1 := by omega
    have c2 : ((a + 1 + 1 : Nat) : Int) = (a : Int) + 1 + 1 := by omega
    have t1 : ((a : Int) + 1).toNat = a + 1 := by omega
    have t2 : ((a : Int) + 1 + 1).toNat = a + 1 + 1 := by omega
    obtain ⟨A, c, rfl⟩ := own_slice hown
    clear HF HR
    rcases kind_cases s (a + 1) with ⟨hK0, n1, n2⟩ | ⟨hK0, n0, n1⟩ | ⟨hK0, n0, n1⟩
    · by_cases hi : a + 1 < s.size
      · have hbi := @bt_eq s (a + 1) hi
        have hli : (a : Int) + 1 < (s.size : Int) := by omega
        have q1 : (bt s (a + 1) == 58) = false := by simpa using (fun h => n1 ⟨hi, h⟩)
        have q2 : (bt s (a + 1) == 42) = false := by simpa using (fun h => n2 ⟨hi, h⟩)
        clear n1 n2
        have hK : kindAt s (a + 1) = 0 := hK0
        obtain ⟨⟨e, g⟩, hr⟩ : ∃ r, r = endAt s (a + 1) := ⟨_, rfl⟩
        rw [← hr] at hES
        obtain ⟨hfe, hes⟩ := hES
        dsimp only at hfe hes
        have hfr : fromAt s (a + 1) = a + 1 := by unfold fromAt; rw [if_pos hK]
        rw [hfr] at hfe
        have HPC := Lib.hid (show pcAt s (a + 1) = (0, s.extract (a + 1) e) by unfold pcAt; rw [hK, hfr, ← hr])
        have HCALL := Lib.hid (fun w => staticEnd_any s (a + 1) w (by omega) (by omega))
        rw [show statE s (a + 1) = (e, g) by rw [hr]; unfold endAt; rw [if_pos hK]] at HCALL
        rw [c1] at HCALL
        unfold endVal at HCALL
        dsimp only at HCALL
        have hmin : min ((a : Int) + 1 : Int) (e : Int) = (a : Int) + 1 := by omega
        have hle : ((a : Int) + 1 : Int) ≤ (e : Int) := by omega
        have HKH := Lib.hid hK
        have HE := Lib.hid hr.symm
        generalize hx : s.extract (a + 1) e = x at *
        have HX := Lib.hid hx
        have hbC := hbw.alloc hbw.size (.cells #[.int .i64 0, .string x] 99)
        clear hK hr hFG hfr
        cases g
        · have hW := wrong_not HE.out
          have HB := Lib.hid (hBAD.out (by rw [hW]; simp))
          rw [HE.out] at HB
          clear hBAD hNEXT
          go_wp2_with fail
          refine (HCALL.out _).mono ?_
          rintro e' w1 ⟨rfl, rfl⟩
          go_wp2
          go_ret3
          exact gives_bad HB.out hbC
        · by_cases hes2 : e < s.size
          · have hbe := @bt_eq s e hes2
            by_cases hsl : bt s e = 47
            · have hq : (bt s e != 47) = false := by rw [hsl]; rfl
              have hW := wrong_slash HE.out hes2 (by rw [HKH.out]; decide) hsl
              have HN := Lib.hid (hNEXT.out (by rw [hW, HPC.out, twice_zero rfl]; rfl))
              rw [HPC.out, HE.out] at HN
              have hown1 := hown.alloc (.cells #[.int .i64 0, .string x] 99)
              clear hBAD hNEXT hW HPC HE HX HKH
              go_wp2_with fail
              refine (HCALL.out _).mono ?_
              rintro e' w1 ⟨rfl, rfl⟩
              go_wp2_with (at_builtin; refine wpList_append_any _ rfl (.tmp 99) (.tmp 101) 80 rfl w.heap.size 99 i0 (.agg #[.int .i64 0, .string ⟨#[]⟩]) 2 24 Try.underlying80 hi0 hz0 hz1 hz2 rfl (by decide) _ _ _ rfl (hown1.alloc _) _ (some ⟨wr.heap.size + 1, 0, none⟩) 1 1 [.int .i64 0, .string x] rfl (reads_of_row (row_newc (wr.alloc (.cells #[.int .i64 0, .string x] 99)) _ 99 (by simp)) rfl (by decide)) ?c1 ?c2 ?c3 ?c4 ?c5)
              case c1 => exact flatP_oneCell [(0, x)]
              case c2 => unfold maxLen; omega
              case c3 => omega
              case c4 => simp; have := hbC.size; (try simp at this); omega
              case c5 =>
                intro v' w2 hown2 hg2 _
                have hb2 := (hbC.alloc (hbC.size) _).grown hg2 (by simp; have := hbC.size; (try simp at this); omega) (own_lt hown)
                have hown3 : w2.ownsRow w.heap.size 99 2 v' (l ++ [(0, x)]).length (flatP (l ++ [(0, x)])) := by rw [flatP_append, List.length_append]; exact hown2
                have HO := Lib.hid hown3
                have HB2 := Lib.hid hb2
                clear hown2 hg2 hown3 hb2
                go_wp2
                go_roundw
                case rel => exact ⟨l ++ [(0, x)], _, hes, rfl, by rw [List.length_append]; simp; omega, HO.out, HN, HB2.out⟩
                case measure => simp [RowKit.intOf]; omega
            · have hq : (bt s e != 47) = true := by simpa using hsl
              have hW := wrong_other HE.out hes2 hsl
              clear hsl
              have HB := Lib.hid (hBAD.out (by rw [hW]; simp))
              rw [HE.out] at HB
              clear hBAD hNEXT
              go_wp2_with fail
              refine (HCALL.out _).mono ?_
              rintro e' w1 ⟨rfl, rfl⟩
              go_wp2
              go_ret3
              exact gives_bad HB.out hbC
          · obtain rfl : e = s.size := by omega
            have hW := wrong_end HE.out (by omega)
            have HN := Lib.hid (hNEXT.out (by rw [hW, HPC.out, twice_zero rfl]; rfl))
            rw [HPC.out, HE.out] at HN
            have hown1 := hown.alloc (.cells #[.int .i64 0, .string x] 99)
            clear hBAD hNEXT hW HPC HE HX HKH
            go_wp2_with fail
            refine (HCALL.out _).mono ?_
            rintro e' w1 ⟨rfl, rfl⟩
            go_wp2_with (at_builtin; refine wpList_append_any _ rfl (.tmp 99) (.tmp 101) 80 rfl w.heap.size 99 i0 (.agg #[.int .i64 0, .string ⟨#[]⟩]) 2 24 Try.underlying80 hi0 hz0 hz1 hz2 rfl (by decide) _ _ _ rfl (hown1.alloc _) _ (some ⟨wr.heap.size + 1, 0, none⟩) 1 1 [.int .i64 0, .string x] rfl (reads_of_row (row_newc (wr.alloc (.cells #[.int .i64 0, .string x] 99)) _ 99 (by simp)) rfl (by decide)) ?c1 ?c2 ?c3 ?c4 ?c5)
            case c1 => exact flatP_oneCell [(0, x)]
            case c2 => unfold maxLen; omega
            case c3 => omega
            case c4 => simp; have := hbC.size; (try simp at this); omega
            case c5 =>
              intro v' w2 hown2 hg2 _
              have hb2 := (hbC.alloc (hbC.size) _).grown hg2 (by simp; have := hbC.size; (try simp at this); omega) (own_lt hown)
              have hown3 : w2.ownsRow w.heap.size 99 2 v' (l ++ [(0, x)]).length (flatP (l ++ [(0, x)])) := by rw [flatP_append, List.length_append]; exact hown2
              have HO := Lib.hid hown3
              have HB2 := Lib.hid hb2
              clear hown2 hg2 hown3 hb2
              go_wp2
              go_roundw
              case rel => exact ⟨l ++ [(0, x)], _, hes, rfl, by rw [List.length_append]; simp; omega, HO.out, HN, HB2.out⟩
              case measure => simp [RowKit.intOf]; omega
      · have hli : ¬ (a : Int) + 1 < (s.size : Int) := by omega
        clear n1 n2
        have hK : kindAt s (a + 1) = 0 := hK0
        obtain ⟨⟨e, g⟩, hr⟩ : ∃ r, r = endAt s (a + 1) := ⟨_, rfl⟩
        rw [← hr] at hES
        obtain ⟨hfe, hes⟩ := hES
        dsimp only at hfe hes
        have hfr : fromAt s (a + 1) = a + 1 := by unfold fromAt; rw [if_pos hK]
        rw [hfr] at hfe
        have HPC := Lib.hid (show pcAt s (a + 1) = (0, s.extract (a + 1) e) by unfold pcAt; rw [hK, hfr, ← hr])
        have HCALL := Lib.hid (fun w => staticEnd_any s (a + 1) w (by omega) (by omega))
        rw [show statE s (a + 1) = (e, g) by rw [hr]; unfold endAt; rw [if_pos hK]] at HCALL
        rw [c1] at HCALL
        unfold endVal at HCALL
        dsimp only at HCALL
        have hmin : min ((a : Int) + 1 : Int) (e : Int) = (a : Int) + 1 := by omega
        have hle : ((a : Int) + 1 : Int) ≤ (e : Int) := by omega
        have HKH := Lib.hid hK
        have HE := Lib.hid hr.symm
        generalize hx : s.extract (a + 1) e = x at *
        have HX := Lib.hid hx
        have hbC := hbw.alloc hbw.size (.cells #[.int .i64 0, .string x] 99)
        clear hK hr hFG hfr
        cases g
        · have hW := wrong_not HE.out
          have HB := Lib.hid (hBAD.out (by rw [hW]; simp))
          rw [HE.out] at HB
          clear hBAD hNEXT
          go_wp2_with fail
          refine (HCALL.out _).mono ?_
          rintro e' w1 ⟨rfl, rfl⟩
          go_wp2
          go_ret3
          exact gives_bad HB.out hbC
        · by_cases hes2 : e < s.size
          · exfalso; omega
          · obtain rfl : e = s.size := by omega
            have hW := wrong_end HE.out (by omega)
            have HN := Lib.hid (hNEXT.out (by rw [hW, HPC.out, twice_zero rfl]; rfl))
            rw [HPC.out, HE.out] at HN
            have hown1 := hown.alloc (.cells #[.int .i64 0, .string x] 99)
            clear hBAD hNEXT hW HPC HE HX HKH
            go_wp2_with fail
            refine (HCALL.out _).mono ?_
            rintro e' w1 ⟨rfl, rfl⟩
            go_wp2_with (at_builtin; refine wpList_append_any _ rfl (.tmp 99) (.tmp 101) 80 rfl w.heap.size 99 i0 (.agg #[.int .i64 0, .string ⟨#[]⟩]) 2 24 Try.underlying80 hi0 hz0 hz1 hz2 rfl (by decide) _ _ _ rfl (hown1.alloc _) _ (some ⟨wr.heap.size + 1, 0, none⟩) 1 1 [.int .i64 0, .string x] rfl (reads_of_row (row_newc (wr.alloc (.cells #[.int .i64 0, .string x] 99)) _ 99 (by simp)) rfl (by decide)) ?c1 ?c2 ?c3 ?c4 ?c5)
            case c1 => exact flatP_oneCell [(0, x)]
            case c2 => unfold maxLen; omega
            case c3 => omega
            case c4 => simp; have := hbC.size; (try simp at this); omega
            case c5 =>
              intro v' w2 hown2 hg2 _
              have hb2 := (hbC.alloc (hbC.size) _).grown hg2 (by simp; have := hbC.size; (try simp at this); omega) (own_lt hown)
              have hown3 : w2.ownsRow w.heap.size 99 2 v' (l ++ [(0, x)]).length (flatP (l ++ [(0, x)])) := by rw [flatP_append, List.length_append]; exact hown2
              have HO := Lib.hid hown3
              have HB2 := Lib.hid hb2
              clear hown2 hg2 hown3 hb2
              go_wp2
              go_roundw
              case rel => exact ⟨l ++ [(0, x)], _, hes, rfl, by rw [List.length_append]; simp; omega, HO.out, HN, HB2.out⟩
              case measure => simp [RowKit.intOf]; omega
    · have hbi := @bt_eq s (a + 1) n0
      have hli : (a : Int) + 1 < (s.size : Int) := by omega
      have q1 : (bt s (a + 1) == 58) = true := by rw [n1]; rfl
      have q2 : (bt s (a + 1) == 42) = false := by rw [n1]; rfl
      clear n1
      have hK : kindAt s (a + 1) = 1 := hK0
      obtain ⟨⟨e, g⟩, hr⟩ : ∃ r, r = endAt s (a + 1) := ⟨_, rfl⟩
      rw [← hr] at hES
      obtain ⟨hfe, hes⟩ := hES
      dsimp only at hfe hes
      have hfr : fromAt s (a + 1) = a + 1 + 1 := by unfold fromAt; rw [if_neg (by rw [hK]; decide)]
      rw [hfr] at hfe
      have HPC := Lib.hid (show pcAt s (a + 1) = (1, s.extract (a + 1 + 1) e) by unfold pcAt; rw [hK, hfr, ← hr])
      have HCALL := Lib.hid (fun w => nameEnd_any s (a + 1 + 1) w (by omega) (by omega))
      rw [show nameE s (a + 1 + 1) = (e, g) by rw [hr]; unfold endAt; rw [if_neg (by rw [hK]; decide)]] at HCALL
      rw [c2] at HCALL
      unfold endVal at HCALL
      dsimp only at HCALL
      have hmin : min ((a : Int) + 1 + 1 : Int) (e : Int) = (a : Int) + 1 + 1 := by omega
      have hle : ((a : Int) + 1 + 1 : Int) ≤ (e : Int) := by omega
      have HKH := Lib.hid hK
      have HE := Lib.hid hr.symm
      generalize hx : s.extract (a + 1 + 1) e = x at *
      have HX := Lib.hid hx
      have hbC := hbw.alloc hbw.size (.cells #[.int .i64 1, .string x] 99)
      clear hK hr hFG hfr
      cases g
      · have hW := wrong_not HE.out
        have HB := Lib.hid (hBAD.out (by rw [hW]; simp))
        rw [HE.out] at HB
        clear hBAD hNEXT
        go_wp2_with fail
        refine (HCALL.out _).mono ?_
        rintro e' w1 ⟨rfl, rfl⟩
        go_wp2
        go_ret3
        exact gives_bad HB.out hbC
      · by_cases hes2 : e < s.size
        · have hbe := @bt_eq s e hes2
          by_cases hsl : bt s e = 47
          · have hq : (bt s e != 47) = false := by rw [hsl]; rfl
            have hW := wrong_slash HE.out hes2 (by rw [HKH.out]; decide) hsl
            have hrow := (own_row hown).alloc (.cells #[.int .i64 1, .string x] 99)
            have HCF := Lib.hid (ContainsFunc_pc A c l (1, x) wr.heap.size _ hrow (by omega) (by simp) (by simp))
            cases htw : l.any (sameName (1, x))
            · have HN := Lib.hid (hNEXT.out (by rw [hW, HPC.out, twice_any (by simp), htw]; rfl))
              rw [HPC.out, HE.out] at HN
              rw [htw] at HCF
              clear hBAD hNEXT hW HPC HE HX HKH htw hrow
              go_wp2_with fail
              refine (HCALL.out _).mono ?_
              rintro e' w1 ⟨rfl, rfl⟩
              go_wp2_with fail
              refine HCF.out.mono ?_
              rintro e' w1 ⟨rfl, hb1⟩
              have hb1 : Below (wr.heap.size + 1) (wr.alloc (.cells #[.int .i64 1, .string x] 99)) w1 := by simpa using hb1
              obtain ⟨hc0, hc1⟩ := box_two hb1
              have hown1 := own_below (hown.alloc (.cells #[.int .i64 1, .string x] 99)) (by simpa using hb1)
              have hbD : Below w.heap.size w w1 := hbC.trans (hb1.mono (by have := hbw.size; omega))
              clear hb1 HCF
              go_wp2_with (at_builtin; refine wpList_append_any _ rfl (.tmp 99) (.tmp 101) 80 rfl w.heap.size 99 i0 (.agg #[.int .i64 0, .string ⟨#[]⟩]) 2 24 Try.underlying80 hi0 hz0 hz1 hz2 rfl (by decide) _ _ _ rfl (hown1.alloc _) _ (some ⟨w1.heap.size, 0, none⟩) 1 1 [.int .i64 1, .string x] rfl (reads_of_row (row_newc w1 _ 99 (by simp)) rfl (by decide)) ?c1 ?c2 ?c3 ?c4 ?c5)
              case c1 => exact flatP_oneCell [(1, x)]
              case c2 => unfold maxLen; omega
              case c3 => omega
              case c4 => simp; have := hbD.size; (try simp at this); omega
              case c5 =>
                intro v' w2 hown2 hg2 _
                have hb2 := (hbD.alloc (hbD.size) _).grown hg2 (by simp; have := hbD.size; (try simp at this); omega) (own_lt hown)
                have hown3 : w2.ownsRow w.heap.size 99 2 v' (l ++ [(1, x)]).length (flatP (l ++ [(1, x)])) := by rw [flatP_append, List.length_append]; exact hown2
                have HO := Lib.hid hown3
                have HB2 := Lib.hid hb2
                clear hown2 hg2 hown3 hb2
                go_wp2
                go_roundw
                case rel => exact ⟨l ++ [(1, x)], _, hes, rfl, by rw [List.length_append]; simp; omega, HO.out, HN, HB2.out⟩
                case measure => simp [RowKit.intOf]; omega
            · have HB := Lib.hid (hBAD.out (by rw [HPC.out, twice_any (by simp), htw]; simp))
              rw [HE.out] at HB
              rw [htw] at HCF
              clear hBAD hNEXT hW HPC HE HX HKH htw hrow
              go_wp2_with fail
              refine (HCALL.out _).mono ?_
              rintro e' w1 ⟨rfl, rfl⟩
              go_wp2_with fail
              refine HCF.out.mono ?_
              rintro e' w1 ⟨rfl, hb1⟩
              have hb1 : Below (wr.heap.size + 1) (wr.alloc (.cells #[.int .i64 1, .string x] 99)) w1 := by simpa using hb1
              have hbD : Below w.heap.size w w1 := hbC.trans (hb1.mono (by have := hbw.size; omega))
              clear hb1 HCF
              go_wp2
              go_ret3
              exact gives_bad HB.out hbD
          · have hq : (bt s e != 47) = true := by simpa using hsl
            have hW := wrong_other HE.out hes2 hsl
            clear hsl
            have HB := Lib.hid (hBAD.out (by rw [hW]; simp))
            rw [HE.out] at HB
            clear hBAD hNEXT
            go_wp2_with fail
            refine (HCALL.out _).mono ?_
            rintro e' w1 ⟨rfl, rfl⟩
            go_wp2
            go_ret3
            exact gives_bad HB.out hbC
        · obtain rfl : e = s.size := by omega
          have hW := wrong_end HE.out (by omega)
          have hrow := (own_row hown).alloc (.cells #[.int .i64 1, .string x] 99)
          have HCF := Lib.hid (ContainsFunc_pc A c l (1, x) wr.heap.size _ hrow (by omega) (by simp) (by simp))
          cases htw : l.any (sameName (1, x))
          · have HN := Lib.hid (hNEXT.out (by rw [hW, HPC.out, twice_any (by simp), htw]; rfl))
            rw [HPC.out, HE.out] at HN
            rw [htw] at HCF
            clear hBAD hNEXT hW HPC HE HX HKH htw hrow
            go_wp2_with fail
            refine (HCALL.out _).mono ?_
            rintro e' w1 ⟨rfl, rfl⟩
            go_wp2_with fail
            refine HCF.out.mono ?_
            rintro e' w1 ⟨rfl, hb1⟩
            have hb1 : Below (wr.heap.size + 1) (wr.alloc (.cells #[.int .i64 1, .string x] 99)) w1 := by simpa using hb1
            obtain ⟨hc0, hc1⟩ := box_two hb1
            have hown1 := own_below (hown.alloc (.cells #[.int .i64 1, .string x] 99)) (by simpa using hb1)
            have hbD : Below w.heap.size w w1 := hbC.trans (hb1.mono (by have := hbw.size; omega))
            clear hb1 HCF
            go_wp2_with (at_builtin; refine wpList_append_any _ rfl (.tmp 99) (.tmp 101) 80 rfl w.heap.size 99 i0 (.agg #[.int .i64 0, .string ⟨#[]⟩]) 2 24 Try.underlying80 hi0 hz0 hz1 hz2 rfl (by decide) _ _ _ rfl (hown1.alloc _) _ (some ⟨w1.heap.size, 0, none⟩) 1 1 [.int .i64 1, .string x] rfl (reads_of_row (row_newc w1 _ 99 (by simp)) rfl (by decide)) ?c1 ?c2 ?c3 ?c4 ?c5)
            case c1 => exact flatP_oneCell [(1, x)]
            case c2 => unfold maxLen; omega
            case c3 => omega
            case c4 => simp; have := hbD.size; (try simp at this); omega
            case c5 =>
              intro v' w2 hown2 hg2 _
              have hb2 := (hbD.alloc (hbD.size) _).grown hg2 (by simp; have := hbD.size; (try simp at this); omega) (own_lt hown)
              have hown3 : w2.ownsRow w.heap.size 99 2 v' (l ++ [(1, x)]).length (flatP (l ++ [(1, x)])) := by rw [flatP_append, List.length_append]; exact hown2
              have HO := Lib.hid hown3
              have HB2 := Lib.hid hb2
              clear hown2 hg2 hown3 hb2
              go_wp2
              go_roundw
              case rel => exact ⟨l ++ [(1, x)], _, hes, rfl, by rw [List.length_append]; simp; omega, HO.out, HN, HB2.out⟩
              case measure => simp [RowKit.intOf]; omega
          · have HB := Lib.hid (hBAD.out (by rw [HPC.out, twice_any (by simp), htw]; simp))
            rw [HE.out] at HB
            rw [htw] at HCF
            clear hBAD hNEXT hW HPC HE HX HKH htw hrow
            go_wp2_with fail
            refine (HCALL.out _).mono ?_
            rintro e' w1 ⟨rfl, rfl⟩
            go_wp2_with fail
            refine HCF.out.mono ?_
            rintro e' w1 ⟨rfl, hb1⟩
            have hb1 : Below (wr.heap.size + 1) (wr.alloc (.cells #[.int .i64 1, .string x] 99)) w1 := by simpa using hb1
            have hbD : Below w.heap.size w w1 := hbC.trans (hb1.mono (by have := hbw.size; omega))
            clear hb1 HCF
            go_wp2
            go_ret3
            exact gives_bad HB.out hbD
    · have hbi := @bt_eq s (a + 1) n0
      have hli : (a : Int) + 1 < (s.size : Int) := by omega
      have q1 : (bt s (a + 1) == 58) = false := by rw [n1]; rfl
      have q2 : (bt s (a + 1) == 42) = true := by rw [n1]; rfl
      clear n1
      have hK : kindAt s (a + 1) = 2 := hK0
      obtain ⟨⟨e, g⟩, hr⟩ : ∃ r, r = endAt s (a + 1) := ⟨_, rfl⟩
      rw [← hr] at hES
      obtain ⟨hfe, hes⟩ := hES
      dsimp only at hfe hes
      have hfr : fromAt s (a + 1) = a + 1 + 1 := by unfold fromAt; rw [if_neg (by rw [hK]; decide)]
      rw [hfr] at hfe
      have HPC := Lib.hid (show pcAt s (a + 1) = (2, s.extract (a + 1 + 1) e) by unfold pcAt; rw [hK, hfr, ← hr])
      have HCALL := Lib.hid (fun w => nameEnd_any s (a + 1 + 1) w (by omega) (by omega))
      rw [show nameE s (a + 1 + 1) = (e, g) by rw [hr]; unfold endAt; rw [if_neg (by rw [hK]; decide)]] at HCALL
      rw [c2] at HCALL
      unfold endVal at HCALL
      dsimp only at HCALL
      have hmin : min ((a : Int) + 1 + 1 : Int) (e : Int) = (a : Int) + 1 + 1 := by omega
      have hle : ((a : Int) + 1 + 1 : Int) ≤ (e : Int) := by omega
      have HKH := Lib.hid hK
      have HE := Lib.hid hr.symm
      generalize hx : s.extract (a + 1 + 1) e = x at *
      have HX := Lib.hid hx
      have hbC := hbw.alloc hbw.size (.cells #[.int .i64 2, .string x] 99)
      clear hK hr hFG hfr
      cases g
      · have hW := wrong_not HE.out
        have HB := Lib.hid (hBAD.out (by rw [hW]; simp))
        rw [HE.out] at HB
        clear hBAD hNEXT
        go_wp2_with fail
        refine (HCALL.out _).mono ?_
        rintro e' w1 ⟨rfl, rfl⟩
        go_wp2
        go_ret3
        exact gives_bad HB.out hbC
      · by_cases hes2 : e < s.size
        · have hbe := @bt_eq s e hes2
          have hW := wrong_rest HE.out hes2 HKH.out
          have HB := Lib.hid (hBAD.out (by rw [hW]; simp))
          rw [HE.out] at HB
          clear hBAD hNEXT
          go_wp2_with fail
          refine (HCALL.out _).mono ?_
          rintro e' w1 ⟨rfl, rfl⟩
          go_wp2
          go_ret3
          exact gives_bad HB.out hbC
        · obtain rfl : e = s.size := by omega
          have hW := wrong_end HE.out (by omega)
          have hrow := (own_row hown).alloc (.cells #[.int .i64 2, .string x] 99)
          have HCF := Lib.hid (ContainsFunc_pc A c l (2, x) wr.heap.size _ hrow (by omega) (by simp) (by simp))
          cases htw : l.any (sameName (2, x))
          · have HN := Lib.hid (hNEXT.out (by rw [hW, HPC.out, twice_any (by simp), htw]; rfl))
            rw [HPC.out, HE.out] at HN
            rw [htw] at HCF
            clear hBAD hNEXT hW HPC HE HX HKH htw hrow
            go_wp2_with fail
            refine (HCALL.out _).mono ?_
            rintro e' w1 ⟨rfl, rfl⟩
            go_wp2_with fail
            refine HCF.out.mono ?_
            rintro e' w1 ⟨rfl, hb1⟩
            have hb1 : Below (wr.heap.size + 1) (wr.alloc (.cells #[.int .i64 2, .string x] 99)) w1 := by simpa using hb1
            obtain ⟨hc0, hc1⟩ := box_two hb1
            have hown1 := own_below (hown.alloc (.cells #[.int .i64 2, .string x] 99)) (by simpa using hb1)
            have hbD : Below w.heap.size w w1 := hbC.trans (hb1.mono (by have := hbw.size; omega))
            clear hb1 HCF
            go_wp2_with (at_builtin; refine wpList_append_any _ rfl (.tmp 99) (.tmp 101) 80 rfl w.heap.size 99 i0 (.agg #[.int .i64 0, .string ⟨#[]⟩]) 2 24 Try.underlying80 hi0 hz0 hz1 hz2 rfl (by decide) _ _ _ rfl (hown1.alloc _) _ (some ⟨w1.heap.size, 0, none⟩) 1 1 [.int .i64 2, .string x] rfl (reads_of_row (row_newc w1 _ 99 (by simp)) rfl (by decide)) ?c1 ?c2 ?c3 ?c4 ?c5)
            case c1 => exact flatP_oneCell [(2, x)]
            case c2 => unfold maxLen; omega
            case c3 => omega
            case c4 => simp; have := hbD.size; (try simp at this); omega
            case c5 =>
              intro v' w2 hown2 hg2 _
              have hb2 := (hbD.alloc (hbD.size) _).grown hg2 (by simp; have := hbD.size; (try simp at this); omega) (own_lt hown)
              have hown3 : w2.ownsRow w.heap.size 99 2 v' (l ++ [(2, x)]).length (flatP (l ++ [(2, x)])) := by rw [flatP_append, List.length_append]; exact hown2
              have HO := Lib.hid hown3
              have HB2 := Lib.hid hb2
              clear hown2 hg2 hown3 hb2
              go_wp2
              go_roundw
              case rel => exact ⟨l ++ [(2, x)], _, hes, rfl, by rw [List.length_append]; simp; omega, HO.out, HN, HB2.out⟩
              case measure => simp [RowKit.intOf]; omega
          · have HB := Lib.hid (hBAD.out (by rw [HPC.out, twice_any (by simp), htw]; simp))
            rw [HE.out] at HB
            rw [htw] at HCF
            clear hBAD hNEXT hW HPC HE HX HKH htw hrow
            go_wp2_with fail
            refine (HCALL.out _).mono ?_
            rintro e' w1 ⟨rfl, rfl⟩
            go_wp2_with fail
            refine HCF.out.mono ?_
            rintro e' w1 ⟨rfl, hb1⟩
            have hb1 : Below (wr.heap.size + 1) (wr.alloc (.cells #[.int .i64 2, .string x] 99)) w1 := by simpa using hb1
            have hbD : Below w.heap.size w w1 := hbC.trans (hb1.mono (by have := hbw.size; omega))
            clear hb1 HCF
            go_wp2
            go_ret3
            exact gives_bad HB.out hbD
set_option maxRecDepth 20000 in
theorem split_any (s : ByteArray) (w : World) (hs : s.size ≤ 4194304) :
    Calls Try.prog 33 #[.string s] w (GivesRd w (splitP s)) := by
  have HRD := Lib.hid (read_any s w hs)
  unfold splitP
  have hsp := readP_spec s
  generalize readP s = r at *
  obtain ⟨l, p, g⟩ := r
  by_cases hb : 1024 < s.size ∧ (g = true ∨ 1024 < p)
  · have HC := Lib.hid (show capP s.size (l, p, g) = ([], 1024, false) from if_pos hb)
    obtain ⟨h1, h2⟩ := hb
    have d1 : (1024 : Int) < (s.size : Int) := by omega
    clear hsp
    cases g
    · have h3 : 1024 < p := by
        rcases h2 with h2 | h2
        · cases h2
        · exact h2
      have d2 : (1024 : Int) < (p : Int) := by omega
      clear h2
      go_enter Try.func33, Try.ntmps33
      go_wp2_with fail
      refine HRD.out.mono ?_
      rintro e w1 ⟨A, c, rfl, ho, hbw⟩
      dsimp only
      go_wp2
      go_ret3
      exact gives_bad HC.out hbw
    · clear h2
      go_enter Try.func33, Try.ntmps33
      go_wp2_with fail
      refine HRD.out.mono ?_
      rintro e w1 ⟨A, c, rfl, ho, hbw⟩
      dsimp only
      go_wp2
      go_ret3
      exact gives_bad HC.out hbw
  · have HC := Lib.hid (show capP s.size (l, p, g) = (l, p, g) from if_neg hb)
    by_cases h1 : 1024 < s.size
    · have d1 : (1024 : Int) < (s.size : Int) := by omega
      cases g
      · have h3 : ¬ 1024 < p := fun x => hb ⟨h1, .inr x⟩
        have d2 : ¬ (1024 : Int) < (p : Int) := by omega
        clear hb hsp
        go_enter Try.func33, Try.ntmps33
        go_wp2_with fail
        refine HRD.out.mono ?_
        rintro e w1 ⟨A, c, rfl, ho, hbw⟩
        dsimp only at ho
        dsimp only
        go_wp2
        go_ret3
        rw [HC.out]
        exact ⟨A, c, rfl, ho, hbw⟩
      · exact absurd ⟨h1, .inl rfl⟩ hb
    · have d1 : ¬ (1024 : Int) < (s.size : Int) := by omega
      clear hb hsp
      go_enter Try.func33, Try.ntmps33
      go_wp2_with fail
      refine HRD.out.mono ?_
      rintro e w1 ⟨A, c, rfl, ho, hbw⟩
      dsimp only at ho
      dsimp only
      go_wp2
      go_ret3
      rw [HC.out]
      exact ⟨A, c, rfl, ho, hbw⟩
/-- A place and an error. -/
def chkVal (r : Int × Int) : Value := .tuple #[.int .i64 r.1, .int .i64 r.2]
set_option maxRecDepth 20000 in
theorem Check_any (s : ByteArray) (w : World) (hs : s.size ≤ 4194304) :
    Calls Try.prog 19 #[.string s] w fun e w' => e = .returned (chkVal (checkP s)) ∧ Below w.heap.size w w' := by
  have HSP := Lib.hid (split_any s w hs)
  unfold checkP
  generalize splitP s = r at *
  obtain ⟨l, p, g⟩ := r
  cases g
  · have HC := Lib.hid (show chkR (l, p, false) = ((p : Int), 130) from rfl)
    go_enter Try.func19, Try.ntmps19
    go_wp2_with fail
    refine HSP.out.mono ?_
    rintro e w1 ⟨A, c, rfl, ho, hbw⟩
    clear ho
    dsimp only
    go_wp2
    go_ret2
    rw [HC.out]
    exact ⟨rfl, hbw⟩
  · have HC := Lib.hid (show chkR (l, p, true) = (0, 0) from rfl)
    go_enter Try.func19, Try.ntmps19
    go_wp2_with fail
    refine HSP.out.mono ?_
    rintro e w1 ⟨A, c, rfl, ho, hbw⟩
    clear ho
    dsimp only
    go_wp2
    go_ret2
    rw [HC.out]
    exact ⟨rfl, hbw⟩
end Go.Proofs.Ytkhgnfofinpofaa
