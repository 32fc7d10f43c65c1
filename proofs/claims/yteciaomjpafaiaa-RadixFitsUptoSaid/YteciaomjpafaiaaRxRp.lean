/-
  The reference's Pieces.
-/
import Derived.Test.YteciaomjpafaiaaRxRs
namespace Go.Proofs.Yteciaomjpafaiaa
open Go.RowKit Go.Shelf Go.Lib

theorem info_rpiece : (Try.prog.info? 64).map (fun i => (i.zero, i.size, i.bytes)) = some (some (.agg #[.int .i64 0, .string ⟨#[]⟩]), 2, 24) := by kernel_rfl
/-- What a call hands back that makes a list of the reference's pieces. -/
def GivesRp (w : World) (l : List Pc) (e : Ending) (w' : World) : Prop :=
  ∃ A c, e = .returned (.slice A l.length c) ∧ w'.ownsRow w.heap.size 64 2 (.slice A l.length c) l.length (flatP l) ∧ Below w.heap.size w w'
theorem gives_rp {w w' : World} {l : List Pc} {v : Value} (ho : w'.ownsRow w.heap.size 64 2 v l.length (flatP l)) (hb : Below w.heap.size w w') : GivesRp w l (.returned v) w' := by
  obtain ⟨A, c, rfl⟩ := own_slice ho
  exact ⟨A, c, rfl, ho, hb⟩
def rPieces (s : ByteArray) : List Pc := (segsP s).map pcOf
theorem pc_colon {x : ByteArray} (h : 0 < x.size) (hb : bt x 0 = 58) : pcOf x = (1, x.extract 1 x.size) := if_pos ⟨h, hb⟩
theorem pc_star {x : ByteArray} (h : 0 < x.size) (hb : bt x 0 = 42) : pcOf x = (2, x.extract 1 x.size) := by
  unfold pcOf
  rw [if_neg (fun hc => by rw [hb] at hc; exact absurd hc.2 (by decide)), if_pos ⟨h, hb⟩]
theorem pc_none {x : ByteArray} (h : x.size = 0) : pcOf x = (0, x) := by
  unfold pcOf
  rw [if_neg (fun hc => by omega), if_neg (fun hc => by omega)]
theorem pc_text {x : ByteArray} (h1 : ¬ bt x 0 = 58) (h2 : ¬ bt x 0 = 42) : pcOf x = (0, x) := by
  unfold pcOf
  rw [if_neg (fun hc => h1 hc.2), if_neg (fun hc => h2 hc.2)]
set_option maxRecDepth 20000 in
set_option maxHeartbeats 4000000 in
theorem rPieces_any (s : ByteArray) (w : World) (hs : s.size ≤ 4194304) :
    Calls Try.prog 28 #[.string s] w (GivesRp w (rPieces s)) := by
  obtain ⟨i0, hi0, hz0, hz1, hz2⟩ := info_parts info_rpiece
  have HS := Lib.hid (rSplit_any s w hs)
  have hL := segsP_len s
  unfold rPieces
  generalize segsP s = ss at *
  go_enter Try.func28, Try.ntmps28
  go_wp2_with fail
  refine HS.out.mono ?_
  rintro e w1 ⟨A, c, rfl, ho, hb1⟩
  have hrow := own_row ho
  have HROW := Lib.hid hrow
  clear HS ho hrow
  go_wp2
  go_loopw [4, 5] (fun r i wr => ∃ k : Nat, i = .int .i64 (k : Int) ∧ k ≤ ss.length ∧ wr.ownsRow w1.heap.size 64 2 r k (flatP ((ss.map pcOf).take k)) ∧ Below w1.heap.size w1 wr) (fun _ i _ => match i with | .int _ k => ss.length - k.toNat | _ => 0)
  case atStart => exact ⟨0, rfl, by omega, World.ownsRow_lit _ #[] 0 (Nat.le_refl _) (by unfold maxLen; omega) rfl, (Below.refl _ _).alloc (Nat.le_refl _) _⟩
  case round =>
    obtain ⟨k, rfl, hk, hown, hbw⟩ := hrel
    by_cases hkl : k < ss.length
    · obtain ⟨x, hx⟩ := some_of_lt hkl
      have hkI : (k : Int) < (ss.length : Int) := by omega
      have hrw := HROW.out.below hbw
      obtain ⟨b, off, rfl, hlt, hcell⟩ := hrw.str hx
      have htk := Lib.hid (take_snoc (show (ss.map pcOf)[k]? = some (pcOf x) by rw [List.getElem?_map, hx]; rfl))
      clear hx hrw
      by_cases hz : x.size = 0
      · have he : x.toList.isEmpty = true := by rw [empty_eq]; exact decide_eq_true hz
        have hbC := hbw.alloc hbw.size (.cells #[.int .i64 0, .string x] 64)
        have hown1 := hown.alloc (.cells #[.int .i64 0, .string x] 64)
        have HPC := Lib.hid (pc_none hz)
        go_wp2_with (at_builtin; refine wpList_append_any _ rfl (.tmp 59) (.tmp 61) 60 rfl w1.heap.size 64 i0 (.agg #[.int .i64 0, .string ⟨#[]⟩]) 2 24 Try.underlying60 hi0 hz0 hz1 hz2 rfl (by decide) _ _ _ rfl (hown1.alloc _) _ (some ⟨wr.heap.size + 1, 0, none⟩) 1 1 [.int .i64 0, .string x] rfl (reads_of_row (row_newc _ _ 64 (by simp)) rfl (by decide)) ?c1 ?c2 ?c3 ?c4 ?c5)
        case c1 => exact flatP_oneCell [(0, x)]
        case c2 => unfold maxLen; omega
        case c3 => omega
        case c4 => simp; have := hbw.size; omega
        case c5 =>
          intro v' w2 hown2 hg2 _
          have hb3 := (hbC.alloc hbC.size _).grown hg2 (by simp; have := hbC.size; (try simp at this); omega) (own_lt hown)
          have hown3 : w2.ownsRow w1.heap.size 64 2 v' (k + 1) (flatP ((ss.map pcOf).take (k + 1))) := by
            rw [htk.out, HPC.out, flatP_append]
            exact hown2
          have HO := Lib.hid hown3
          have HB3 := Lib.hid hb3
          clear hown2 hg2 hown3 hb3
          go_wp2
          go_roundw
          case rel => exact ⟨k + 1, by simp, by omega, HO.out, HB3.out⟩
          case measure => simp; omega
      · have he : x.toList.isEmpty = false := by rw [empty_eq]; exact decide_eq_false hz
        have hxl : 0 < x.size := by omega
        have hb0 := @bt_eq x 0 hxl
        by_cases h58 : bt x 0 = 58
        · have q1 : (bt x 0 == 58) = true := by rw [h58]; rfl
          have q2 : (bt x 0 == 42) = false := by rw [h58]; rfl
          have hle : (1 : Int) ≤ (x.size : Int) := by omega
          have hbC := hbw.alloc hbw.size (.cells #[.int .i64 1, .string (x.extract 1 x.size)] 64)
          have hown1 := hown.alloc (.cells #[.int .i64 1, .string (x.extract 1 x.size)] 64)
          have HPC := Lib.hid (pc_colon hxl h58)
          go_wp2_with (at_builtin; refine wpList_append_any _ rfl (.tmp 59) (.tmp 61) 60 rfl w1.heap.size 64 i0 (.agg #[.int .i64 0, .string ⟨#[]⟩]) 2 24 Try.underlying60 hi0 hz0 hz1 hz2 rfl (by decide) _ _ _ rfl (hown1.alloc _) _ (some ⟨wr.heap.size + 1, 0, none⟩) 1 1 [.int .i64 1, .string (x.extract 1 x.size)] rfl (reads_of_row (row_newc _ _ 64 (by simp)) rfl (by decide)) ?c1 ?c2 ?c3 ?c4 ?c5)
          case c1 => exact flatP_oneCell [(1, x.extract 1 x.size)]
          case c2 => unfold maxLen; omega
          case c3 => omega
          case c4 => simp; have := hbw.size; omega
          case c5 =>
            intro v' w2 hown2 hg2 _
            have hb3 := (hbC.alloc hbC.size _).grown hg2 (by simp; have := hbC.size; (try simp at this); omega) (own_lt hown)
            have hown3 : w2.ownsRow w1.heap.size 64 2 v' (k + 1) (flatP ((ss.map pcOf).take (k + 1))) := by
              rw [htk.out, HPC.out, flatP_append]
              exact hown2
            have HO := Lib.hid hown3
            have HB3 := Lib.hid hb3
            clear hown2 hg2 hown3 hb3
            go_wp2
            go_roundw
            case rel => exact ⟨k + 1, by simp, by omega, HO.out, HB3.out⟩
            case measure => simp; omega
        · have q1 : (bt x 0 == 58) = false := by simpa using h58
          by_cases h42 : bt x 0 = 42
          · have q2 : (bt x 0 == 42) = true := by rw [h42]; rfl
            have hle : (1 : Int) ≤ (x.size : Int) := by omega
            have hbC := hbw.alloc hbw.size (.cells #[.int .i64 2, .string (x.extract 1 x.size)] 64)
            have hown1 := hown.alloc (.cells #[.int .i64 2, .string (x.extract 1 x.size)] 64)
            have HPC := Lib.hid (pc_star hxl h42)
            go_wp2_with (at_builtin; refine wpList_append_any _ rfl (.tmp 59) (.tmp 61) 60 rfl w1.heap.size 64 i0 (.agg #[.int .i64 0, .string ⟨#[]⟩]) 2 24 Try.underlying60 hi0 hz0 hz1 hz2 rfl (by decide) _ _ _ rfl (hown1.alloc _) _ (some ⟨wr.heap.size + 1, 0, none⟩) 1 1 [.int .i64 2, .string (x.extract 1 x.size)] rfl (reads_of_row (row_newc _ _ 64 (by simp)) rfl (by decide)) ?c1 ?c2 ?c3 ?c4 ?c5)
            case c1 => exact flatP_oneCell [(2, x.extract 1 x.size)]
            case c2 => unfold maxLen; omega
            case c3 => omega
            case c4 => simp; have := hbw.size; omega
            case c5 =>
              intro v' w2 hown2 hg2 _
              have hb3 := (hbC.alloc hbC.size _).grown hg2 (by simp; have := hbC.size; (try simp at this); omega) (own_lt hown)
              have hown3 : w2.ownsRow w1.heap.size 64 2 v' (k + 1) (flatP ((ss.map pcOf).take (k + 1))) := by
                rw [htk.out, HPC.out, flatP_append]
                exact hown2
              have HO := Lib.hid hown3
              have HB3 := Lib.hid hb3
              clear hown2 hg2 hown3 hb3
              go_wp2
              go_roundw
              case rel => exact ⟨k + 1, by simp, by omega, HO.out, HB3.out⟩
              case measure => simp; omega
          · have q2 : (bt x 0 == 42) = false := by simpa using h42
            have hbC := hbw.alloc hbw.size (.cells #[.int .i64 0, .string x] 64)
            have hown1 := hown.alloc (.cells #[.int .i64 0, .string x] 64)
            have HPC := Lib.hid (pc_text h58 h42)
            go_wp2_with (at_builtin; refine wpList_append_any _ rfl (.tmp 59) (.tmp 61) 60 rfl w1.heap.size 64 i0 (.agg #[.int .i64 0, .string ⟨#[]⟩]) 2 24 Try.underlying60 hi0 hz0 hz1 hz2 rfl (by decide) _ _ _ rfl (hown1.alloc _) _ (some ⟨wr.heap.size + 1, 0, none⟩) 1 1 [.int .i64 0, .string x] rfl (reads_of_row (row_newc _ _ 64 (by simp)) rfl (by decide)) ?c1 ?c2 ?c3 ?c4 ?c5)
            case c1 => exact flatP_oneCell [(0, x)]
            case c2 => unfold maxLen; omega
            case c3 => omega
            case c4 => simp; have := hbw.size; omega
            case c5 =>
              intro v' w2 hown2 hg2 _
              have hb3 := (hbC.alloc hbC.size _).grown hg2 (by simp; have := hbC.size; (try simp at this); omega) (own_lt hown)
              have hown3 : w2.ownsRow w1.heap.size 64 2 v' (k + 1) (flatP ((ss.map pcOf).take (k + 1))) := by
                rw [htk.out, HPC.out, flatP_append]
                exact hown2
              have HO := Lib.hid hown3
              have HB3 := Lib.hid hb3
              clear hown2 hg2 hown3 hb3
              go_wp2
              go_roundw
              case rel => exact ⟨k + 1, by simp, by omega, HO.out, HB3.out⟩
              case measure => simp; omega
    · have hkI : ¬ (k : Int) < (ss.length : Int) := by omega
      obtain rfl : k = ss.length := by omega
      have HO := Lib.hid hown
      clear hown
      go_wp2
      go_ret
      have ho := HO.out
      rw [← List.length_map (f := pcOf), List.take_length] at ho
      exact gives_rp (World.ownsRow.mono ho hb1.size) (hb1.trans (hbw.mono hb1.size))
end Go.Proofs.Yteciaomjpafaiaa
