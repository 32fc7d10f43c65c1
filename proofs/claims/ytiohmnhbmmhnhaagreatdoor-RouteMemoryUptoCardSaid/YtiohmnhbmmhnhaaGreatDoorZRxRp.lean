/-
 RxRp, without what this claim does not reach.
-/
import Derived.Test.YtiohmnhbmmhnhaaGreatDoorZRlJ
import Derived.Test.YtiohmnhbmmhnhaaGreatDoorZTgSp
namespace Go.Proofs.YtiohmnhbmmhnhaaGreatDoor
open Go.RowKit Go.Shelf Go.Lib
theorem segsGo_fuel (s : ByteArray) : ∀ (n m a : Nat), s.size - a ≤ n → s.size - a ≤ m → segsGo s n a = segsGo s m a
 | 0, 0, _, _, _ => rfl
 | 0, m + 1, a, h, _ => by
  conv => rhs; unfold segsGo
  rw [if_neg (by omega)]
  rfl
 | n + 1, 0, a, _, h => by
  conv => lhs; unfold segsGo
  rw [if_neg (by omega)]
  rfl
 | n + 1, m + 1, a, h1, h2 => by
  conv => lhs; unfold segsGo
  conv => rhs; unfold segsGo
  by_cases ha : a < s.size
  ·have := segEnd_ge s (a + 1)
   rw [if_pos ha, if_pos ha, segsGo_fuel s n m _ (by omega) (by omega)]
  ·rw [if_neg ha, if_neg ha]
def segsA (s : ByteArray) (a : Nat) : List ByteArray := segsGo s (s.size - a) a
theorem segsA_end {s : ByteArray} {a : Nat} (h : s.size ≤ a) : segsA s a = [] := by
 unfold segsA
 rw [Nat.sub_eq_zero_of_le h]
 rfl
theorem segsA_step {s : ByteArray} {f k : Nat} (hf : f < s.size) (h1 : f + 1 ≤ k) (h2 : k ≤ s.size) (h3 : ∀ j, f + 1 ≤ j → j < k → bt s j ≠ 47) (h4 : k < s.size → bt s k = 47) : segsA s f = s.extract (f + 1) k :: segsA s k := by
 have he := segEnd_eq h1 h2 h3 h4
 obtain ⟨n, hn⟩ : ∃ n, s.size - f = n + 1 := ⟨s.size - f - 1, by omega⟩
 unfold segsA
 rw [hn]
 conv => lhs; unfold segsGo
 rw [if_pos hf, he, segsGo_fuel s n (s.size - k) k (by omega) (by omega)]
theorem segsP_A (s : ByteArray) : segsP s = segsA s 0 := rfl
theorem segsGo_len (s : ByteArray) : ∀ (n a : Nat), (segsGo s n a).length ≤ n
 | 0, _ => Nat.le_refl _
 | n + 1, a => by
  unfold segsGo
  by_cases h : a < s.size
  ·rw [if_pos h]
   have := segsGo_len s n (segEnd s (a + 1))
   simp only [List.length_cons]
   omega
  ·rw [if_neg h]
   exact Nat.zero_le _
theorem segsP_len (s : ByteArray) : (segsP s).length ≤ s.size := segsGo_len s _ _
def SplAt (s : ByteArray) (k f : Nat) (acc : List ByteArray) : Prop :=
 1 ≤ f ∧ f ≤ k ∧ k ≤ s.size + 1 ∧ (k ≤ s.size → (∀ j, f ≤ j → j < k → bt s j ≠ 47) ∧ acc ++ segsA s (f - 1) = segsP s) ∧ (s.size < k → acc = segsP s)
theorem SplAt.start (s : ByteArray) : SplAt s 1 1 [] :=
 ⟨Nat.le_refl _, Nat.le_refl _, by omega, fun _ => ⟨fun j h1 h2 => by omega, rfl⟩, fun h => by
  rw [segsP_A, segsA_end (by omega)]⟩
theorem SplAt.len {s : ByteArray} {k f : Nat} {acc : List ByteArray} (h : SplAt s k f acc) : acc.length ≤ s.size := by
 obtain ⟨_, _, _, h4, h5⟩ := h
 have := segsP_len s
 by_cases hk : k ≤ s.size
 ·have h6 := congrArg List.length (h4 hk).2
  rw [List.length_append] at h6
  omega
 ·rw [h5 (by omega)]; exact this
theorem SplAt.take {s : ByteArray} {k f : Nat} {acc : List ByteArray} (h : SplAt s k f acc) (hk : k ≤ s.size) (hb : k < s.size → bt s k = 47) : SplAt s (k + 1) (k + 1) (acc ++ [s.extract f k]) := by
 obtain ⟨h1, h2, h3, h4, _⟩ := h
 obtain ⟨h6, h7⟩ := h4 hk
 obtain ⟨g, rfl⟩ : ∃ g, f = g + 1 := ⟨f - 1, by omega⟩
 have he := segsA_step (s := s) (f := g) (k := k) (by omega) h2 hk h6 hb
 have h7' : acc ++ segsA s g = segsP s := h7
 rw [he] at h7'
 refine ⟨by omega, Nat.le_refl _, by omega, fun _ => ⟨fun j a b => by omega, ?_⟩, fun h8 => ?_⟩
 ·rw [Nat.add_sub_cancel, ← h7', List.append_assoc]
  rfl
 ·rw [← h7', segsA_end (by omega)]
theorem SplAt.pass {s : ByteArray} {k f : Nat} {acc : List ByteArray} (h : SplAt s k f acc) (hk : k < s.size) (hb : bt s k ≠ 47) : SplAt s (k + 1) f acc := by
 obtain ⟨h1, h2, h3, h4, _⟩ := h
 obtain ⟨h6, h7⟩ := h4 (by omega)
 refine ⟨h1, by omega, by omega, fun _ => ⟨fun j a b => ?_, h7⟩, fun h8 => by omega⟩
 rcases Nat.lt_or_ge j k with h9 | h9
 ·exact h6 j a h9
 ·obtain rfl : j = k := by omega
  exact hb
theorem SplAt.done {s : ByteArray} {k f : Nat} {acc : List ByteArray} (h : SplAt s k f acc) (hk : ¬ k ≤ s.size) : acc = segsP s := h.2.2.2.2 (by omega)
set_option maxRecDepth 20000 in
set_option maxHeartbeats 2000000 in
theorem rSplit_any (s : ByteArray) (w : World) (hs : s.size ≤ 4194304) :
  Calls Tryz.prog 64 #[.string s] w (GivesStrs w (segsP s)) := by
 obtain ⟨i0, hi0, hz0, hz1, hz2⟩ := info_parts info_string
 go_enter Tryz.func64, Tryz.ntmps64
 go_wp2
 go_loopw [3, 4, 5] (fun r f i wr => ∃ (k g : Nat) (acc : List ByteArray), f = .int .i64 (g : Int) ∧ i = .int .i64 (k : Int) ∧ SplAt s k g acc ∧ wr.ownsRow w.heap.size 9 1 r acc.length (acc.map .string) ∧ Below w.heap.size w wr) (fun _ _ i _ => match i with | .int _ k => s.size + 1 - k.toNat | _ => 0)
 case atStart => exact ⟨1, 1, [], rfl, rfl, SplAt.start s, World.ownsRow_lit w #[] 0 (Nat.le_refl _) (by unfold maxLen; omega) rfl, (Below.refl _ w).alloc (Nat.le_refl _) _⟩
 case round =>
  obtain ⟨k, g, acc, rfl, rfl, hat, hown, hbw⟩ := hrel
  have hlen := hat.len
  obtain ⟨h1, h2, h3, _⟩ := id hat
  have HAT := Lib.hid hat
  clear hat
  by_cases hk : k ≤ s.size
  ·have hkI : (k : Int) ≤ (s.size : Int) := by omega
   have hgI : (g : Int) ≤ (k : Int) := by omega
   by_cases hq : k = s.size ∨ bt s k = 47
   ·have HN := Lib.hid (HAT.out.take hk (fun h => hq.resolve_left (by omega)))
    clear HAT
    by_cases hz : k = s.size
    ·have hez : ((k : Int) == (s.size : Int)) = true := by simp [hz]
     clear hq hz
     go_wp2_with (at_builtin; refine wpList_append_own _ rfl _ _ 33 rfl w.heap.size 9 i0 (.string ⟨#[]⟩) 1 16 Tryz.underlying33 hi0 hz0 hz1 hz2 rfl (by decide) _ _ _ rfl (hown.alloc _) ⟨wr.heap.size, 0, none⟩ 1 1 [.string (s.extract g k)] rfl rfl (cell_one_new _ _ _) ?c1 ?c2 ?c3 ?c4 ?c5)
     case c1 => exact strs_oneCell [_]
     case c2 => unfold maxLen; omega
     case c3 => omega
     case c4 => simp; have := hbw.size; omega
     case c5 =>
      intro v' w2 hown2 hg2 _
      have hb2 : Below w.heap.size w w2 := (hbw.alloc hbw.size _).grown hg2 (by simp; have := hbw.size; omega) (own_lt hown)
      have ho2 : w2.ownsRow w.heap.size 9 1 v' (acc ++ [s.extract g k]).length ((acc ++ [s.extract g k]).map .string) := by
       rw [List.length_append, List.map_append]
       exact hown2
      clear hown2 hg2 hown
      go_wp2
      go_roundw
      case rel => exact ⟨k + 1, k + 1, acc ++ [s.extract g k], by simp, by simp, HN.out, ho2, hb2⟩
      case measure => simp; omega
    ·have hk1 : k < s.size := by omega
     have hb := @bt_eq s k hk1
     have hkI2 : (k : Int) < (s.size : Int) := by omega
     have hne : ((k : Int) == (s.size : Int)) = false := by simp; omega
     have hb47 : (bt s k == 47) = true := by rw [hq.resolve_left hz]; rfl
     clear hq
     go_wp2_with (at_builtin; refine wpList_append_own _ rfl _ _ 33 rfl w.heap.size 9 i0 (.string ⟨#[]⟩) 1 16 Tryz.underlying33 hi0 hz0 hz1 hz2 rfl (by decide) _ _ _ rfl (hown.alloc _) ⟨wr.heap.size, 0, none⟩ 1 1 [.string (s.extract g k)] rfl rfl (cell_one_new _ _ _) ?c1 ?c2 ?c3 ?c4 ?c5)
     case c1 => exact strs_oneCell [_]
     case c2 => unfold maxLen; omega
     case c3 => omega
     case c4 => simp; have := hbw.size; omega
     case c5 =>
      intro v' w2 hown2 hg2 _
      have hb2 : Below w.heap.size w w2 := (hbw.alloc hbw.size _).grown hg2 (by simp; have := hbw.size; omega) (own_lt hown)
      have ho2 : w2.ownsRow w.heap.size 9 1 v' (acc ++ [s.extract g k]).length ((acc ++ [s.extract g k]).map .string) := by
       rw [List.length_append, List.map_append]
       exact hown2
      clear hown2 hg2 hown
      go_wp2
      go_roundw
      case rel => exact ⟨k + 1, k + 1, acc ++ [s.extract g k], by simp, by simp, HN.out, ho2, hb2⟩
      case measure => simp; omega
   ·have hk1 : k < s.size := by omega
    have hb := @bt_eq s k hk1
    have hkI2 : (k : Int) < (s.size : Int) := by omega
    have hne : ((k : Int) == (s.size : Int)) = false := by simp; omega
    have HN := Lib.hid (HAT.out.pass hk1 (fun h => hq (.inr h)))
    have hb47 : (bt s k == 47) = false := by simpa using (fun h => hq (.inr h) : ¬ bt s k = 47)
    clear HAT hq
    go_wp2
    go_roundw
    case rel => exact ⟨k + 1, g, acc, rfl, by simp, HN.out, hown, hbw⟩
    case measure => simp; omega
  ·have hkI : ¬ (k : Int) ≤ (s.size : Int) := by omega
   have HD := Lib.hid (HAT.out.done hk)
   clear HAT
   go_wp2
   go_ret
   rw [← HD.out]
   exact gives_strs hown hbw
end Go.Proofs.YtiohmnhbmmhnhaaGreatDoor
namespace Go.Proofs.YtiohmnhbmmhnhaaGreatDoor
open Go.RowKit Go.Shelf Go.Lib
theorem info_rpiece : (Tryz.prog.info? 175).map (fun i => (i.zero, i.size, i.bytes)) = some (some (.agg #[.int .i64 0, .string ⟨#[]⟩]), 2, 24) := by kernel_rfl
def GivesRp (w : World) (l : List Pc) (e : Ending) (w' : World) : Prop :=
 ∃ A c, e = .returned (.slice A l.length c) ∧ w'.ownsRow w.heap.size 175 2 (.slice A l.length c) l.length (flatP l) ∧ Below w.heap.size w w'
theorem gives_rp {w w' : World} {l : List Pc} {v : Value} (ho : w'.ownsRow w.heap.size 175 2 v l.length (flatP l)) (hb : Below w.heap.size w w') : GivesRp w l (.returned v) w' := by
 obtain ⟨A, c, rfl⟩ := own_slice ho
 exact ⟨A, c, rfl, ho, hb⟩
def rPieces (s : ByteArray) : List Pc := (segsP s).map pcOf
theorem pc_colon {x : ByteArray} (h : 0 < x.size) (hb : bt x 0 = 58) : pcOf x = (1, x.extract 1 x.size) := if_pos ⟨h, hb⟩
theorem pc_star {x : ByteArray} (h : 0 < x.size) (hb : bt x 0 = 42) : pcOf x = (2, x.extract 1 x.size) := by
 unfold pcOf
 rw [if_neg (fun hc => by rw [hb] at hc; exact absurd hc.2 (by decide)), if_pos ⟨h, hb⟩]
theorem pc_none {x : ByteArray} (h : x.size = 0) : pcOf x = (0, x) := by
 unfold pcOf
 rw [if_neg (fun hc => by omega), if_neg (fun hc => by omega)]
theorem pc_text {x : ByteArray} (h1 : ¬ bt x 0 = 58) (h2 : ¬ bt x 0 = 42) : pcOf x = (0, x) := by
 unfold pcOf
 rw [if_neg (fun hc => h1 hc.2), if_neg (fun hc => h2 hc.2)]
set_option maxRecDepth 20000 in
set_option maxHeartbeats 4000000 in
theorem rPieces_any (s : ByteArray) (w : World) (hs : s.size ≤ 4194304) :
  Calls Tryz.prog 89 #[.string s] w (GivesRp w (rPieces s)) := by
 obtain ⟨i0, hi0, hz0, hz1, hz2⟩ := info_parts info_rpiece
 have HS := Lib.hid (rSplit_any s w hs)
 have hL := segsP_len s
 unfold rPieces
 generalize segsP s = ss at *
 go_enter Tryz.func89, Tryz.ntmps89
 go_wp2_with fail
 refine HS.out.mono ?_
 rintro e w1 ⟨A, c, rfl, ho, hb1⟩
 have hrow := own_row ho
 have HROW := Lib.hid hrow
 clear HS ho hrow
 go_wp2
 go_loopw [4, 5] (fun r i wr => ∃ k : Nat, i = .int .i64 (k : Int) ∧ k ≤ ss.length ∧ wr.ownsRow w1.heap.size 175 2 r k (flatP ((ss.map pcOf).take k)) ∧ Below w1.heap.size w1 wr) (fun _ i _ => match i with | .int _ k => ss.length - k.toNat | _ => 0)
 case atStart => exact ⟨0, rfl, by omega, World.ownsRow_lit _ #[] 0 (Nat.le_refl _) (by unfold maxLen; omega) rfl, (Below.refl _ _).alloc (Nat.le_refl _) _⟩
 case round =>
  obtain ⟨k, rfl, hk, hown, hbw⟩ := hrel
  by_cases hkl : k < ss.length
  ·obtain ⟨x, hx⟩ := some_of_lt hkl
   have hkI : (k : Int) < (ss.length : Int) := by omega
   have hrw := HROW.out.below hbw
   obtain ⟨b, off, rfl, hlt, hcell⟩ := hrw.str hx
   have htk := Lib.hid (take_snoc (show (ss.map pcOf)[k]? = some (pcOf x) by rw [List.getElem?_map, hx]; rfl))
   clear hx hrw
   by_cases hz : x.size = 0
   ·have he : x.toList.isEmpty = true := by rw [empty_eq]; exact decide_eq_true hz
    have hbC := hbw.alloc hbw.size (.cells #[.int .i64 0, .string x] 175)
    have hown1 := hown.alloc (.cells #[.int .i64 0, .string x] 175)
    have HPC := Lib.hid (pc_none hz)
    go_wp2_with (at_builtin; refine wpList_append_any _ rfl (.tmp 59) (.tmp 61) 160 rfl w1.heap.size 175 i0 (.agg #[.int .i64 0, .string ⟨#[]⟩]) 2 24 Tryz.underlying160 hi0 hz0 hz1 hz2 rfl (by decide) _ _ _ rfl (hown1.alloc _) _ (some ⟨wr.heap.size + 1, 0, none⟩) 1 1 [.int .i64 0, .string x] rfl (reads_of_row (row_newc _ _ 175 (by simp)) rfl (by decide)) ?c1 ?c2 ?c3 ?c4 ?c5)
    case c1 => exact flatP_oneCell [(0, x)]
    case c2 => unfold maxLen; omega
    case c3 => omega
    case c4 => simp; have := hbw.size; omega
    case c5 =>
     intro v' w2 hown2 hg2 _
     have hb3 := (hbC.alloc hbC.size _).grown hg2 (by simp; have := hbC.size; (try simp at this); omega) (own_lt hown)
     have hown3 : w2.ownsRow w1.heap.size 175 2 v' (k + 1) (flatP ((ss.map pcOf).take (k + 1))) := by
      rw [htk.out, HPC.out, flatP_append]
      exact hown2
     have HO := Lib.hid hown3
     have HB3 := Lib.hid hb3
     clear hown2 hg2 hown3 hb3
     go_wp2
     go_roundw
     case rel => exact ⟨k + 1, by simp, by omega, HO.out, HB3.out⟩
     case measure => simp; omega
   ·have he : x.toList.isEmpty = false := by rw [empty_eq]; exact decide_eq_false hz
    have hxl : 0 < x.size := by omega
    have hb0 := @bt_eq x 0 hxl
    by_cases h58 : bt x 0 = 58
    ·have q1 : (bt x 0 == 58) = true := by rw [h58]; rfl
     have q2 : (bt x 0 == 42) = false := by rw [h58]; rfl
     have hle : (1 : Int) ≤ (x.size : Int) := by omega
     have hbC := hbw.alloc hbw.size (.cells #[.int .i64 1, .string (x.extract 1 x.size)] 175)
     have hown1 := hown.alloc (.cells #[.int .i64 1, .string (x.extract 1 x.size)] 175)
     have HPC := Lib.hid (pc_colon hxl h58)
     go_wp2_with (at_builtin; refine wpList_append_any _ rfl (.tmp 59) (.tmp 61) 160 rfl w1.heap.size 175 i0 (.agg #[.int .i64 0, .string ⟨#[]⟩]) 2 24 Tryz.underlying160 hi0 hz0 hz1 hz2 rfl (by decide) _ _ _ rfl (hown1.alloc _) _ (some ⟨wr.heap.size + 1, 0, none⟩) 1 1 [.int .i64 1, .string (x.extract 1 x.size)] rfl (reads_of_row (row_newc _ _ 175 (by simp)) rfl (by decide)) ?c1 ?c2 ?c3 ?c4 ?c5)
     case c1 => exact flatP_oneCell [(1, x.extract 1 x.size)]
     case c2 => unfold maxLen; omega
     case c3 => omega
     case c4 => simp; have := hbw.size; omega
     case c5 =>
      intro v' w2 hown2 hg2 _
      have hb3 := (hbC.alloc hbC.size _).grown hg2 (by simp; have := hbC.size; (try simp at this); omega) (own_lt hown)
      have hown3 : w2.ownsRow w1.heap.size 175 2 v' (k + 1) (flatP ((ss.map pcOf).take (k + 1))) := by
       rw [htk.out, HPC.out, flatP_append]
       exact hown2
      have HO := Lib.hid hown3
      have HB3 := Lib.hid hb3
      clear hown2 hg2 hown3 hb3
      go_wp2
      go_roundw
      case rel => exact ⟨k + 1, by simp, by omega, HO.out, HB3.out⟩
      case measure => simp; omega
    ·have q1 : (bt x 0 == 58) = false := by simpa using h58
     by_cases h42 : bt x 0 = 42
     ·have q2 : (bt x 0 == 42) = true := by rw [h42]; rfl
      have hle : (1 : Int) ≤ (x.size : Int) := by omega
      have hbC := hbw.alloc hbw.size (.cells #[.int .i64 2, .string (x.extract 1 x.size)] 175)
      have hown1 := hown.alloc (.cells #[.int .i64 2, .string (x.extract 1 x.size)] 175)
      have HPC := Lib.hid (pc_star hxl h42)
      go_wp2_with (at_builtin; refine wpList_append_any _ rfl (.tmp 59) (.tmp 61) 160 rfl w1.heap.size 175 i0 (.agg #[.int .i64 0, .string ⟨#[]⟩]) 2 24 Tryz.underlying160 hi0 hz0 hz1 hz2 rfl (by decide) _ _ _ rfl (hown1.alloc _) _ (some ⟨wr.heap.size + 1, 0, none⟩) 1 1 [.int .i64 2, .string (x.extract 1 x.size)] rfl (reads_of_row (row_newc _ _ 175 (by simp)) rfl (by decide)) ?c1 ?c2 ?c3 ?c4 ?c5)
      case c1 => exact flatP_oneCell [(2, x.extract 1 x.size)]
      case c2 => unfold maxLen; omega
      case c3 => omega
      case c4 => simp; have := hbw.size; omega
      case c5 =>
       intro v' w2 hown2 hg2 _
       have hb3 := (hbC.alloc hbC.size _).grown hg2 (by simp; have := hbC.size; (try simp at this); omega) (own_lt hown)
       have hown3 : w2.ownsRow w1.heap.size 175 2 v' (k + 1) (flatP ((ss.map pcOf).take (k + 1))) := by
        rw [htk.out, HPC.out, flatP_append]
        exact hown2
       have HO := Lib.hid hown3
       have HB3 := Lib.hid hb3
       clear hown2 hg2 hown3 hb3
       go_wp2
       go_roundw
       case rel => exact ⟨k + 1, by simp, by omega, HO.out, HB3.out⟩
       case measure => simp; omega
     ·have q2 : (bt x 0 == 42) = false := by simpa using h42
      have hbC := hbw.alloc hbw.size (.cells #[.int .i64 0, .string x] 175)
      have hown1 := hown.alloc (.cells #[.int .i64 0, .string x] 175)
      have HPC := Lib.hid (pc_text h58 h42)
      go_wp2_with (at_builtin; refine wpList_append_any _ rfl (.tmp 59) (.tmp 61) 160 rfl w1.heap.size 175 i0 (.agg #[.int .i64 0, .string ⟨#[]⟩]) 2 24 Tryz.underlying160 hi0 hz0 hz1 hz2 rfl (by decide) _ _ _ rfl (hown1.alloc _) _ (some ⟨wr.heap.size + 1, 0, none⟩) 1 1 [.int .i64 0, .string x] rfl (reads_of_row (row_newc _ _ 175 (by simp)) rfl (by decide)) ?c1 ?c2 ?c3 ?c4 ?c5)
      case c1 => exact flatP_oneCell [(0, x)]
      case c2 => unfold maxLen; omega
      case c3 => omega
      case c4 => simp; have := hbw.size; omega
      case c5 =>
       intro v' w2 hown2 hg2 _
       have hb3 := (hbC.alloc hbC.size _).grown hg2 (by simp; have := hbC.size; (try simp at this); omega) (own_lt hown)
       have hown3 : w2.ownsRow w1.heap.size 175 2 v' (k + 1) (flatP ((ss.map pcOf).take (k + 1))) := by
        rw [htk.out, HPC.out, flatP_append]
        exact hown2
       have HO := Lib.hid hown3
       have HB3 := Lib.hid hb3
       clear hown2 hg2 hown3 hb3
       go_wp2
       go_roundw
       case rel => exact ⟨k + 1, by simp, by omega, HO.out, HB3.out⟩
       case measure => simp; omega
  ·have hkI : ¬ (k : Int) < (ss.length : Int) := by omega
   obtain rfl : k = ss.length := by omega
   have HO := Lib.hid hown
   clear hown
   go_wp2
   go_ret
   have ho := HO.out
   rw [← List.length_map (f := pcOf), List.take_length] at ho
   exact gives_rp (World.ownsRow.mono ho hb1.size) (hb1.trans (hbw.mono hb1.size))
end Go.Proofs.YtiohmnhbmmhnhaaGreatDoor
