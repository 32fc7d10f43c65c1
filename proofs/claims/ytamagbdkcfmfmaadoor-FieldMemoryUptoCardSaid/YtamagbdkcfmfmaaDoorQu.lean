/-
  Quoted texts: the walks of Quoted (reference) and Unquote (program).
-/
import Derived.Test.YtamagbdkcfmfmaaDoorRoct
import Derived.Test.YtamagbdkcfmfmaaDoorPrint
import Derived.Test.YtamagbdkcfmfmaaDoorEl
namespace Go.Proofs.YtamagbdkcfmfmaaDoor
open Go.RowKit Go.Shelf Go.Lib

set_option maxRecDepth 20000 in
set_option maxHeartbeats 1000000 in
theorem rQuoted_any (s : ByteArray) (w : World) (hs : s.size ≤ 1099511627776) :
    Calls Tryd.prog 113 #[.string s] w fun e w' => e = .returned (.int .i64 (quLen s)) ∧ w = w' := by
  go_enter Tryd.func113, Tryd.ntmps113
  go_wp2
  go_loop [3] (fun v => ∃ k : Nat, 1 ≤ k ∧ k ≤ s.size + 1 ∧ v = .int .i64 k ∧ QuAt s k) (fun v => s.size - (RowKit.intOf v).toNat)
  case atStart => exact ⟨1, by omega, by omega, rfl, QuAt.start s⟩
  case round =>
    obtain ⟨k, hk1, hk, rfl, hq⟩ := hrel
    by_cases hlt : k < s.size
    · have hb := @bt_eq s k hlt
      by_cases h34 : bt s k = 34
      · have hc := beq_iff_eq.2 h34
        have HE := Lib.hid (hq.quote hlt h34)
        clear h34 hq
        go_wp2
        go_ret
        exact ⟨ret_int (by rw [HE.out]; omega), rfl⟩
      · have hc : (bt s k == 34) = false := beq_eq_false_iff_ne.2 h34
        by_cases h92 : bt s k = 92
        · have hc2 := beq_iff_eq.2 h92
          by_cases hend : k + 1 = s.size
          · have HE := Lib.hid (hq.esc_end hend h92)
            have hc3 : ((k : Int) + 1 == (s.size : Int)) = true := beq_iff_eq.2 (by omega)
            clear h34 h92 hq hend
            go_wp2
            go_ret
            exact ⟨ret_int (by rw [HE.out]; rfl), rfl⟩
          · have hlt2 : k + 1 < s.size := by omega
            have hc3 : ((k : Int) + 1 == (s.size : Int)) = false := beq_eq_false_iff_ne.2 (by omega)
            have hb2 := @bt_eq s (k + 1) hlt2
            have hi : ((k : Int) + 1).toNat = k + 1 := by omega
            have hlt3 : (k : Int) + 1 < (s.size : Int) := by omega
            cases hin : inside (bt s (k + 1))
            · have HE := Lib.hid (hq.esc_bad hlt2 h92 hin)
              clear h34 h92 hq hend
              go_wp2_with fail
              refine (rInside_any _ _).mono ?_
              rw [hin]
              rintro e w' ⟨rfl, rfl⟩
              go_wp2
              go_ret
              exact ⟨ret_int (by rw [HE.out]; rfl), rfl⟩
            · have HE := Lib.hid (hq.esc_on hlt2 h92 hin)
              clear h34 h92 hq hend
              go_wp2_with fail
              refine (rInside_any _ _).mono ?_
              rw [hin]
              rintro e w' ⟨rfl, rfl⟩
              go_wp2
              go_round
              case rel => exact ⟨k + 2, by omega, by omega, by go_num, HE.out⟩
              case measure => simp [RowKit.intOf]; omega
        · have hc2 : (bt s k == 92) = false := beq_eq_false_iff_ne.2 h92
          cases hin : inside (bt s k)
          · have HE := Lib.hid (hq.bad hlt h34 h92 hin)
            clear h34 h92 hq
            go_wp2_with fail
            refine (rInside_any _ _).mono ?_
            rw [hin]
            rintro e w' ⟨rfl, rfl⟩
            go_wp2
            go_ret
            exact ⟨ret_int (by rw [HE.out]; rfl), rfl⟩
          · have HE := Lib.hid (hq.on hlt h34 h92 hin)
            clear h34 h92 hq
            go_wp2_with fail
            refine (rInside_any _ _).mono ?_
            rw [hin]
            rintro e w' ⟨rfl, rfl⟩
            go_wp2
            go_round
            case rel => exact ⟨k + 1, by omega, by omega, by go_num, HE.out⟩
            case measure => simp [RowKit.intOf]; omega
    · have HE := Lib.hid (hq.end_ (by omega))
      clear hq
      go_wp2
      go_ret
      exact ⟨ret_int (by rw [HE.out]; rfl), rfl⟩

/-- What Unquote hands back: some text, how many bytes, the error. -/
def GivesUnq (w : World) (n : Nat) (e : Ending) (w' : World) : Prop := ∃ v : ByteArray, e = .returned (.tuple #[.string v, .int .i64 n, .int .i64 (if n = 0 then 13 else 0)]) ∧ Below w.heap.size w w'
theorem gives_unq {w w' : World} {n : Nat} {v : ByteArray} {k x : Int} (hk : k = (n : Int)) (hx : x = if n = 0 then 13 else 0) (hb : Below w.heap.size w w') : GivesUnq w n (.returned (.tuple #[.string v, .int .i64 k, .int .i64 x])) w' := by
  subst hk hx
  exact ⟨v, rfl, hb⟩
theorem gives_unq0 {w w' : World} {s : ByteArray} (h : quLen s = 0) (hb : Below w.heap.size w w') : GivesUnq w (quLen s) (.returned (.tuple #[.string ⟨#[]⟩, .int .i64 0, .int .i64 13])) w' := by
  rw [h]
  exact gives_unq rfl rfl hb
theorem byte_cells_snoc (l : List UInt8) (c : UInt8) : Lib.byteCells l ++ [.int .u8 (c.toNat : Int)] = Lib.byteCells (l ++ [c]) := by
  rw [Lib.byteCells_append]
  rfl
theorem bt_byte (s : ByteArray) (k : Nat) : ∃ c : UInt8, bt s k = (c.toNat : Int) := ⟨_, rfl⟩
set_option maxRecDepth 20000 in
set_option maxHeartbeats 2000000 in
theorem Unquote_any (s : ByteArray) (w : World) (hs : s.size ≤ 1099511627776) (h0 : 0 < s.size) (hq0 : bt s 0 = 34) :
    Calls Tryd.prog 111 #[.string s] w (GivesUnq w (quLen s)) := by
  have he : s.toList.isEmpty = false := by rw [empty_eq]; exact decide_eq_false (by omega)
  have hb0 := @bt_eq s 0 h0
  have hc0 : (bt s 0 != 34) = false := by rw [hq0]; rfl
  clear hq0
  go_enter Tryd.func111, Tryd.ntmps111
  go_wp2
  go_loopw [6] (fun v wr => ∃ (k : Nat) (acc : List UInt8), 1 ≤ k ∧ k ≤ s.size + 1 ∧ v = .int .i64 k ∧ QuAt s k ∧ Lib.IsBuilderF 104 5 w.heap.size w.heap.size (Lib.byteCells acc) wr ∧ Below w.heap.size w wr ∧ w.heap.size < wr.heap.size ∧ acc.length ≤ k) (fun v _ => s.size - (RowKit.intOf v).toNat)
  case atStart => exact ⟨1, [], by omega, by omega, rfl, QuAt.start s, Lib.IsBuilderF.of (Lib.fresh_isBuilder 104 5 w), (Below.refl _ w).alloc (Nat.le_refl _) _, by simp, by simp⟩
  case round =>
    obtain ⟨k, acc, hk1, hk, rfl, hq, hI, hbw, hsz, hacc⟩ := hrel
    by_cases hlt : k < s.size
    · have hb := @bt_eq s k hlt
      by_cases h34 : bt s k = 34
      · have hc := beq_iff_eq.2 h34
        have HE := Lib.hid (hq.quote hlt h34)
        clear h34 hq
        go_wp2_with fail
        refine (Tryd.Builder_String_any_k w.heap.size w.heap.size acc _ hI (by omega)).mono ?_
        rintro e w1 ⟨rfl, _, b1, _⟩
        go_wp2
        go_ret3
        exact gives_unq (by rw [HE.out]; omega) (by rw [HE.out, if_neg (by omega)]) (hbw.trans b1)
      · have hc : (bt s k == 34) = false := beq_eq_false_iff_ne.2 h34
        by_cases h92 : bt s k = 92
        · have hc2 := beq_iff_eq.2 h92
          by_cases hend : k + 1 = s.size
          · have HE := Lib.hid (hq.esc_end hend h92)
            have hc3 : ((k : Int) + 1 == (s.size : Int)) = true := beq_iff_eq.2 (by omega)
            clear h34 h92 hq hend
            go_wp2
            go_ret3
            exact gives_unq0 HE.out hbw
          · have hlt2 : k + 1 < s.size := by omega
            have hc3 : ((k : Int) + 1 == (s.size : Int)) = false := beq_eq_false_iff_ne.2 (by omega)
            have hb2 := @bt_eq s (k + 1) hlt2
            have hi : ((k : Int) + 1).toNat = k + 1 := by omega
            have hlt3 : (k : Int) + 1 < (s.size : Int) := by omega
            cases hin : inside (bt s (k + 1))
            · have HE := Lib.hid (hq.esc_bad hlt2 h92 hin)
              clear h34 h92 hq hend
              go_wp2_with fail
              refine (isFieldByte_any _ _).mono ?_
              rw [hin]
              rintro e w' ⟨rfl, rfl⟩
              go_wp2
              go_ret3
              exact gives_unq0 HE.out hbw
            · have HE := Lib.hid (hq.esc_on hlt2 h92 hin)
              clear h34 h92 hq hend
              go_wp2_with fail
              refine (isFieldByte_any _ _).mono ?_
              rw [hin]
              rintro e w' ⟨rfl, rfl⟩
              go_wp2_with fail
              obtain ⟨c, hcc⟩ := bt_byte s (k + 1)
              refine (WriteByte_k w.heap.size w.heap.size _ _ _ hI (by rw [Lib.byteCells_length]; omega) (by omega)).mono ?_
              rintro e w2 ⟨rfl, h2, hb2', _⟩
              rw [hcc, byte_cells_snoc] at h2
              have hI2 : Lib.IsBuilderF 104 5 w.heap.size w.heap.size (Lib.byteCells (acc ++ [c])) w2 := .inr h2
              have hbw2 : Below w.heap.size w w2 := hbw.trans hb2'
              have hsz2 : w.heap.size < w2.heap.size := Nat.lt_of_lt_of_le hsz hb2'.size
              clear h2 hb2' hI hcc
              go_wp2
              go_roundw
              case rel => exact ⟨k + 2, _, by omega, by omega, by go_num, HE.out, hI2, hbw2, hsz2, by simp; omega⟩
              case measure => simp [RowKit.intOf]; omega
        · have hc2 : (bt s k == 92) = false := beq_eq_false_iff_ne.2 h92
          cases hin : inside (bt s k)
          · have HE := Lib.hid (hq.bad hlt h34 h92 hin)
            clear h34 h92 hq
            go_wp2_with fail
            refine (isFieldByte_any _ _).mono ?_
            rw [hin]
            rintro e w' ⟨rfl, rfl⟩
            go_wp2
            go_ret3
            exact gives_unq0 HE.out hbw
          · have HE := Lib.hid (hq.on hlt h34 h92 hin)
            clear h34 h92 hq
            go_wp2_with fail
            refine (isFieldByte_any _ _).mono ?_
            rw [hin]
            rintro e w' ⟨rfl, rfl⟩
            go_wp2_with fail
            obtain ⟨c, hcc⟩ := bt_byte s k
            refine (WriteByte_k w.heap.size w.heap.size _ _ _ hI (by rw [Lib.byteCells_length]; omega) (by omega)).mono ?_
            rintro e w2 ⟨rfl, h2, hb2', _⟩
            rw [hcc, byte_cells_snoc] at h2
            have hI2 : Lib.IsBuilderF 104 5 w.heap.size w.heap.size (Lib.byteCells (acc ++ [c])) w2 := .inr h2
            have hbw2 : Below w.heap.size w w2 := hbw.trans hb2'
            have hsz2 : w.heap.size < w2.heap.size := Nat.lt_of_lt_of_le hsz hb2'.size
            clear h2 hb2' hI hcc
            go_wp2
            go_roundw
            case rel => exact ⟨k + 1, _, by omega, by omega, by go_num, HE.out, hI2, hbw2, hsz2, by simp; omega⟩
            case measure => simp [RowKit.intOf]; omega
    · have HE := Lib.hid (hq.end_ (by omega))
      clear hq
      go_wp2
      go_ret3
      exact gives_unq0 HE.out hbw
end Go.Proofs.YtamagbdkcfmfmaaDoor
