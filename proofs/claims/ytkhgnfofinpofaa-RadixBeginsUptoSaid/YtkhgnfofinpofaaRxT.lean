/-
  A pattern's edges: plain words, and the walk of steps.
-/
import Derived.Test.YtkhgnfofinpofaaRxR
import Derived.Test.YtkhgnfofinpofaaRxSt
import Derived.Test.YtkhgnfofinpofaaTgJo
namespace Go.Proofs.Ytkhgnfofinpofaa
open Go.RowKit Go.Shelf Go.Lib

/-- What a call hands back that makes a list of pieces. -/
def GivesPcs (w : World) (l : List Pc) (e : Ending) (w' : World) : Prop :=
  ∃ A c, e = .returned (.slice A l.length c) ∧ w'.ownsRow w.heap.size 99 2 (.slice A l.length c) l.length (flatP l) ∧ Below w.heap.size w w'
theorem gives_pcs {w w' : World} {l : List Pc} {v : Value} (ho : w'.ownsRow w.heap.size 99 2 v l.length (flatP l)) (hb : Below w.heap.size w w') : GivesPcs w l (.returned v) w' := by
  obtain ⟨A, c, rfl⟩ := own_slice ho
  exact ⟨A, c, rfl, ho, hb⟩

set_option maxRecDepth 20000 in
set_option maxHeartbeats 4000000 in
theorem steps_any (A : Option Addr) (c : Nat) (l : List Pc) (w : World) (hr : Row w A (flatP l)) (hl : totP l ≤ 4194304) :
    Calls Try.prog 65 #[.slice A l.length c] w (GivesPcs w (stepsP l)) := by
  obtain ⟨i0, hi0, hz0, hz1, hz2⟩ := info_parts info_piece
  have hll := totP_len l
  go_enter Try.func65, Try.ntmps65
  go_wp2
  go_loopw [3, 4, 9] (fun v t i wr => ∃ (k : Nat) (tx : ByteArray) (out : List Pc), k ≤ l.length ∧ i = .int .i64 k ∧ t = .string tx ∧ Hid (k = 0 → tx.size = 0) ∧ Hid (stepsGo (l.drop k) k tx out = stepsP l) ∧ Hid (tx.size + totP (l.drop k) ≤ totP l) ∧ Hid (out.length ≤ 2 * k) ∧ wr.ownsRow w.heap.size 99 2 v out.length (flatP out) ∧ Below w.heap.size w wr) (fun _ _ i _ => l.length - (RowKit.intOf i).toNat)
  case atStart => exact ⟨0, ⟨#[]⟩, [], by omega, rfl, rfl, Lib.hid (fun _ => rfl), Lib.hid rfl, Lib.hid (by show 0 + totP l ≤ _; omega), Lib.hid (Nat.le_refl _), World.ownsRow_nil _ _ _ _, Below.refl _ _⟩
  case round =>
    obtain ⟨k, tx, out, hk, rfl, rfl, HT0, HS, HT, HO, hown, hbw⟩ := hrel
    obtain ⟨OA, Oc, rfl⟩ := own_slice hown
    by_cases hlt : k < l.length
    · obtain ⟨⟨x, y⟩, hxy⟩ := some_of_lt hlt
      obtain ⟨b, off, rfl, hb, h0, h1⟩ := (hr.below hbw).pc hxy
      have hdr := drop_of_some hxy
      have hs := HS.out
      have ht := HT.out
      rw [hdr] at hs ht
      rw [totP_cons] at ht
      dsimp only at ht
      have htx : tx.size ≤ 4194304 := by omega
      have hty : y.size ≤ 4194304 := by omega
      have hol := HO.out
      have hno1 : ¬ 9223372036854775807 < tx.size + 1 := by omega
      have hno2 : ¬ 9223372036854775807 < tx.size + 1 + y.size := by omega
      have hno3 : ¬ 9223372036854775807 < tx.size + y.size := by omega
      have hown1 := hown.alloc (.cells #[.int .i64 x, .string y] 99)
      have hb1 := hbw.alloc hbw.size (.cells #[.int .i64 x, .string y] 99)
      clear hxy hdr HS HT HO
      by_cases hk0 : k = 0
      · have hki : ¬ (0 : Int) < (k : Int) := by omega
        have htz := HT0.out hk0
        by_cases hx : x = 0
        · have hq : (x == 0) = true := by rw [hx]; rfl
          rw [steps_first_text hx hk0] at hs
          have HS := Lib.hid hs
          have HT := Lib.hid (show (tx ++ y).size + totP (l.drop (k + 1)) ≤ totP l by rw [ByteArray.size_append]; omega)
          clear hs ht hx hk0 htz HT0
          go_wp2
          go_roundw
          case rel => exact ⟨k + 1, _, _, by omega, by go_num, rfl, Lib.hid (fun h => by omega), HS, HT, Lib.hid (by omega), hown1, hb1⟩
          case measure => simp [RowKit.intOf]; omega
        · have hq : (x == 0) = false := by simpa using hx
          have he : tx.toList.isEmpty = true := by rw [empty_eq]; exact decide_eq_true htz
          rw [steps_first_edge hx hk0 htz] at hs
          have HS := Lib.hid hs
          have HT := Lib.hid (show (⟨#[]⟩ : ByteArray).size + totP (l.drop (k + 1)) ≤ totP l by show 0 + _ ≤ _; omega)
          clear hs ht hx hk0 htz HT0
          go_wp2_with (at_builtin; refine wpList_append_any _ rfl (.tmp 32) (.tmp 34) 80 rfl w.heap.size 99 i0 (.agg #[.int .i64 0, .string ⟨#[]⟩]) 2 24 Try.underlying80 hi0 hz0 hz1 hz2 rfl (by decide) _ _ _ rfl (hown1.alloc _) _ (some ⟨wr.heap.size + 1, 0, none⟩) 1 1 [.int .i64 x, .string y] rfl (reads_of_row (row_newc (wr.alloc (.cells #[.int .i64 x, .string y] 99)) _ 99 (by simp)) rfl (by decide)) ?a1 ?a2 ?a3 ?a4 ?a5)
          case a1 => first | exact flatP_oneCell [(x, y)] | exact ⟨rfl, rfl⟩
          case a2 => unfold maxLen; omega
          case a3 => omega
          case a4 => (try simp); have := hb1.size; (try simp at this); omega
          case a5 =>
            intro va wa howna hga _
            have hba := (hb1.alloc (hb1.size) _).grown hga (by (try simp); have := hb1.size; (try simp at this); omega) (own_lt hown1)
            have hoa : wa.ownsRow w.heap.size 99 2 va (out ++ [(x, y)]).length (flatP (out ++ [(x, y)])) := by rw [flatP_append, List.length_append]; exact howna
            clear howna hga
            have HOo := Lib.hid hoa
            have HBb := Lib.hid hba
            clear hoa hba
            go_wp2
            go_roundw
            case rel => exact ⟨k + 1, _, _, by omega, by go_num, rfl, Lib.hid (fun h => by omega), HS, HT, Lib.hid (by rw [List.length_append]; simp; omega), HOo.out, HBb.out⟩
            case measure => simp [RowKit.intOf]; omega
      · have hki : (0 : Int) < (k : Int) := by omega
        by_cases hx : x = 0
        · have hq : (x == 0) = true := by rw [hx]; rfl
          rw [steps_text hx hk0] at hs
          have HS := Lib.hid hs
          have HT := Lib.hid (show (tx ++ slashR ++ y).size + totP (l.drop (k + 1)) ≤ totP l by rw [ByteArray.size_append, slash_size]; omega)
          clear hs ht hx hk0 HT0
          go_wp2
          go_roundw
          case rel => exact ⟨k + 1, _, _, by omega, by go_num, rfl, Lib.hid (fun h => by omega), HS, HT, Lib.hid (by omega), hown1, hb1⟩
          case measure => simp [RowKit.intOf]; omega
        · have hq : (x == 0) = false := by simpa using hx
          have hsl := slash_size tx
          obtain ⟨ts, hts⟩ : ∃ ts, tx ++ ⟨#[47]⟩ = ts := ⟨_, rfl⟩
          have hts2 : tx ++ slashR = ts := hts
          have htz : ts.size = tx.size + 1 := by rw [← hts2]; exact hsl
          have he : ts.toList.isEmpty = false := by rw [empty_eq]; exact decide_eq_false (by omega)
          rw [steps_edge hx hk0, hts2] at hs
          have HS := Lib.hid hs
          have HT := Lib.hid (show (⟨#[]⟩ : ByteArray).size + totP (l.drop (k + 1)) ≤ totP l by show 0 + _ ≤ _; omega)
          clear hs ht hx hk0 HT0 hsl hts2
          go_wp2_with (at_builtin; refine wpList_append_any _ rfl (.tmp 27) (.tmp 30) 80 rfl w.heap.size 99 i0 (.agg #[.int .i64 0, .string ⟨#[]⟩]) 2 24 Try.underlying80 hi0 hz0 hz1 hz2 rfl (by decide) _ _ _ rfl (hown1.alloc _) _ (some ⟨wr.heap.size + 1, 0, none⟩) 1 1 [.int .i64 0, .string ts] rfl (reads_of_row (row_newc (wr.alloc (.cells #[.int .i64 x, .string y] 99)) _ 99 (by simp)) rfl (by decide)) ?b1 ?b2 ?b3 ?b4 ?b5)
          case b1 => first | exact flatP_oneCell [(0, ts)] | exact ⟨rfl, rfl⟩
          case b2 => unfold maxLen; omega
          case b3 => omega
          case b4 => (try simp); have := hb1.size; (try simp at this); omega
          case b5 =>
            intro vb wb hownb hgb _
            have hbb := (hb1.alloc (hb1.size) _).grown hgb (by (try simp); have := hb1.size; (try simp at this); omega) (own_lt hown1)
            have hob : wb.ownsRow w.heap.size 99 2 vb (out ++ [(0, ts)]).length (flatP (out ++ [(0, ts)])) := by rw [flatP_append, List.length_append]; exact hownb
            clear hownb
            have hcx : wb.cell? ⟨wr.heap.size, 0, none⟩ = some (.int .i64 x) ∧ wb.cell? ⟨wr.heap.size, 1, none⟩ = some (.string y) := by
              have hne : some wr.heap.size ≠ (Value.slice OA out.length Oc).ownBlock := fun e => by have := own_blt hown _ e.symm; omega
              have hf0 := cell_far hgb ⟨wr.heap.size, 0, none⟩ (by simp; omega) hne
              have hf1 := cell_far hgb ⟨wr.heap.size, 1, none⟩ (by simp; omega) hne
              exact ⟨hf0.trans (by simp), hf1.trans (by simp)⟩
            obtain ⟨hcx0, hcx1⟩ := hcx
            clear hgb
            obtain ⟨o2, ho2⟩ : ∃ o2, o2 = out ++ [(0, ts)] := ⟨_, rfl⟩
            have hl2 : o2.length = out.length + 1 := by rw [ho2, List.length_append]; rfl
            rw [← ho2] at hob HS
            have hl3 : o2.length ≤ 2 * k + 1 := by omega
            clear ho2 hl2
            go_wp2_with (at_builtin; refine wpList_append_any _ rfl (.tmp 32) (.tmp 34) 80 rfl w.heap.size 99 i0 (.agg #[.int .i64 0, .string ⟨#[]⟩]) 2 24 Try.underlying80 hi0 hz0 hz1 hz2 rfl (by decide) _ _ _ rfl (hob.alloc _) _ (some ⟨wb.heap.size, 0, none⟩) 1 1 [.int .i64 x, .string y] rfl (reads_of_row (row_newc wb _ 99 (by simp)) rfl (by decide)) ?c1 ?c2 ?c3 ?c4 ?c5)
            case c1 => first | exact flatP_oneCell [(x, y)] | exact ⟨rfl, rfl⟩
            case c2 => unfold maxLen; omega
            case c3 => omega
            case c4 => (try simp); have := hbb.size; (try simp at this); omega
            case c5 =>
              intro vc wc hownc hgc _
              have hbc := (hbb.alloc (hbb.size) _).grown hgc (by (try simp); have := hbb.size; (try simp at this); omega) (own_lt hob)
              have hoc : wc.ownsRow w.heap.size 99 2 vc (o2 ++ [(x, y)]).length (flatP (o2 ++ [(x, y)])) := by rw [flatP_append, List.length_append]; exact hownc
              clear hownc hgc
              have HOo := Lib.hid hoc
              have HBb := Lib.hid hbc
              clear hoc hbc
              go_wp2
              go_roundw
              case rel => exact ⟨k + 1, _, _, by omega, by go_num, rfl, Lib.hid (fun h => by omega), HS, HT, Lib.hid (by rw [List.length_append]; simp; omega), HOo.out, HBb.out⟩
              case measure => simp [RowKit.intOf]; omega
    · obtain rfl : k = l.length := by omega
      have hs := HS.out
      have ht := HT.out
      rw [List.drop_length] at hs ht
      have htx : tx.size ≤ 4194304 := by omega
      have hol := HO.out
      by_cases hz : tx.size = 0
      · have he : tx.toList.isEmpty = true := by rw [empty_eq]; exact decide_eq_true hz
        rw [steps_end hz] at hs
        have HS := Lib.hid hs
        clear hs hz ht
        go_wp2
        go_ret
        rw [← HS.out]
        exact gives_pcs hown hbw
      · have he : tx.toList.isEmpty = false := by rw [empty_eq]; exact decide_eq_false hz
        rw [steps_end_text hz] at hs
        have HS := Lib.hid hs
        clear hs hz ht
        go_wp2_with (at_builtin; refine wpList_append_any _ rfl (.tmp 39) (.tmp 42) 80 rfl w.heap.size 99 i0 (.agg #[.int .i64 0, .string ⟨#[]⟩]) 2 24 Try.underlying80 hi0 hz0 hz1 hz2 rfl (by decide) _ _ _ rfl (hown.alloc _) _ (some ⟨wr.heap.size, 0, none⟩) 1 1 [.int .i64 0, .string tx] rfl (reads_of_row (row_newc wr _ 99 (by simp)) rfl (by decide)) ?d1 ?d2 ?d3 ?d4 ?d5)
        case d1 => first | exact flatP_oneCell [(0, tx)] | exact ⟨rfl, rfl⟩
        case d2 => unfold maxLen; omega
        case d3 => omega
        case d4 => (try simp); have := hbw.size; (try simp at this); omega
        case d5 =>
          intro vd wd hownd hgd _
          have hbd := (hbw.alloc (hbw.size) _).grown hgd (by (try simp); have := hbw.size; (try simp at this); omega) (own_lt hown)
          have hod : wd.ownsRow w.heap.size 99 2 vd (out ++ [(0, tx)]).length (flatP (out ++ [(0, tx)])) := by rw [flatP_append, List.length_append]; exact hownd
          clear hownd hgd
          go_wp2
          go_ret
          rw [← HS.out]
          exact gives_pcs hod hbd
end Go.Proofs.Ytkhgnfofinpofaa
