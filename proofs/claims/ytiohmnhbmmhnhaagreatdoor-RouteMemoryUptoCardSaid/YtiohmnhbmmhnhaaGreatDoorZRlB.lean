/-
 RlB, without what this claim does not reach.
-/
import Derived.Test.YtiohmnhbmmhnhaaGreatDoorZRxG
import Derived.Test.YtiohmnhbmmhnhaaGreatDoorZRxV
import Derived.Deep.RegionHeld3
namespace Go.Proofs.YtiohmnhbmmhnhaaGreatDoor
open Go.RowKit Go.Shelf Go.Lib
open Go.RowKit Go.Shelf Go.Lib Go.Maps Go.WideMaps
def plW (x : Wy) : Pw := (x.1, x.2.2)
theorem HasPrefix_any (s p : ByteArray) (w : World) : Calls Tryz.prog 123 #[.string s, .string p] w fun e w' => e = .returned (.bool (preB s p)) ∧ w = w' :=
 (Tryz.strings_HasPrefix s p w).mono fun _ _ ⟨he, hw⟩ => ⟨he, hw.symm⟩
theorem way_first {w : World} {x : Wy} {p : Pc} {r : List Pc} (hr : Row w x.2.1.1 (flatP x.2.2)) (hx : x.2.2 = p :: r) :
  ∃ b off, x.2.1.1 = some ⟨b, off, none⟩ ∧ b < w.heap.size ∧ w.cell? ⟨b, off, none⟩ = some (.int .i64 p.1) ∧ w.cell? ⟨b, off + 1, none⟩ = some (.string p.2) := by
 obtain ⟨b, off, e, hb, h0, h1⟩ := hr.pc (k := 0) (x := p.1) (y := p.2) (by rw [hx]; rfl)
 exact ⟨b, off, e, hb, by simpa using h0, by simpa using h1⟩
theorem txt_of {x : Wy} {p : Pc} {r : List Pc} (hx : x.2.2 = p :: r) : txt (plW x) = p.2 := by unfold txt plW; rw [hx]
set_option maxRecDepth 20000 in
set_option maxHeartbeats 4000000 in
theorem common_any (A : Option Addr) (c : Nat) (l : List Wy) (w : World) (hr : Row w A (flatW l)) (ho : WOk w l) (hl : l.length ≤ 4194304) (h0 : 0 < l.length) (hne : ∀ x ∈ l, x.2.2 ≠ []) (hsz : ∀ x ∈ l, (txt (plW x)).size ≤ 4194304) :
  Calls Tryz.prog 150 #[.slice A l.length c] w fun e w' => e = .returned (.string (commonP (l.map plW))) ∧ Below w.heap.size w w' := by
 obtain ⟨x0, hx0⟩ := some_of_lt h0
 obtain ⟨b, off, rfl, hb, hc0, hc1⟩ := hr.way hx0
 obtain ⟨p0, r0, hp0⟩ : ∃ p r, x0.2.2 = p :: r := by
  cases e : x0.2.2 with
  | nil => exact absurd e (hne x0 (List.mem_of_getElem? hx0))
  | cons p r => exact ⟨p, r, rfl⟩
 obtain ⟨b0, off0, e0, hb0, hd0, hd1⟩ := way_first (ho x0 (List.mem_of_getElem? hx0)).1 hp0
 have hcm : commonP (l.map plW) = (l.map plW).foldl (fun t x => comOne (txt x) t) p0.2 := by
  cases l with
  | nil => simp at h0
  | cons y l =>
   simp at hx0
   subst hx0
   show ((y :: l).map plW).foldl _ (txt (plW y)) = _
   rw [txt_of hp0]
 have HC := Lib.hid hcm
 have hp0z : p0.2.size ≤ 4194304 := by have := hsz x0 (List.mem_of_getElem? hx0); rw [txt_of hp0] at this; exact this
 have HNE := Lib.hid hne
 have HOK := Lib.hid ho
 have HR := Lib.hid hr
 rw [e0, hp0] at hc1
 simp only [Nat.zero_mul, Nat.add_zero] at hc0 hc1
 have hl0 : (0 : Int) < (l.length : Int) := by omega
 clear hcm hne ho hx0 e0 hp0
 go_enter Tryz.func150, Tryz.ntmps150
 go_wp2
 clear hc0 hc1 hd0 hd1 hb0
 go_loopw [3, 15] (fun t i wr => ∃ (k : Nat) (tx : ByteArray), k ≤ l.length ∧ i = .int .i64 k ∧ t = .string tx ∧ tx.size ≤ 4194304 ∧ Hid (((l.map plW).drop k).foldl (fun t x => comOne (txt x) t) tx = commonP (l.map plW)) ∧ Below w.heap.size w wr) (fun _ i _ => l.length - (RowKit.intOf i).toNat)
 case atStart => exact ⟨0, p0.2, by omega, rfl, rfl, hp0z, Lib.hid HC.out.symm, Below.refl _ _⟩
 case round =>
  clear HC hp0z
  obtain ⟨k, tx, hk, rfl, rfl, htx, HF, hbw⟩ := hrel
  by_cases hlt : k < l.length
  ·obtain ⟨x, hx⟩ := some_of_lt hlt
   have hmem := List.mem_of_getElem? hx
   obtain ⟨bx, offx, e1, hbx, g0, g1⟩ := (HR.out.below hbw).way hx
   injection e1 with e1
   injection e1 with e1 e2
   subst e1
   subst e2
   obtain ⟨p, r, hp⟩ : ∃ p r, x.2.2 = p :: r := by
    cases e : x.2.2 with
    | nil => exact absurd e (HNE.out x hmem)
    | cons p r => exact ⟨p, r, rfl⟩
   obtain ⟨bp, offp, ep, hbp, f0, f1⟩ := way_first ((HOK.out x hmem).1.below hbw) hp
   have hdr := drop_of_some (l := l.map plW) (k := k) (x := plW x) (by rw [List.getElem?_map, hx]; rfl)
   have hf := HF.out
   rw [hdr, List.foldl_cons, txt_of hp] at hf
   have HF2 := Lib.hid hf
   rw [ep, hp] at g1
   have hb1 := hbw.alloc hbw.size (.cells #[.int .i64 (x.1 : Int), .slice (some ⟨bp, offp, none⟩) (p :: r).length x.2.1.2] 192)
   have HH := Lib.hid (fun (t : ByteArray) w => HasPrefix_any p.2 t w)
   clear hdr hf HF hmem hx ep hp
   go_wp2
   go_loop [3] (fun v => ∃ t2 : ByteArray, v = .string t2 ∧ t2.size ≤ 4194304 ∧ Hid (comOne p.2 t2 = comOne p.2 tx)) (fun v => match v with | .string t => t.size | _ => 0)
   case atStart => exact ⟨tx, rfl, htx, Lib.hid rfl⟩
   case round =>
    obtain ⟨t2, rfl, ht2, HT⟩ := hrel
    have HP := Lib.hid (fun w => HH.out t2 w)
    cases hpre : preB p.2 t2
    ·obtain ⟨hz, hco⟩ := comOne_no hpre
     have HT2 := Lib.hid (hco.symm.trans HT.out)
     rw [hpre] at HP
     have hz1 := ext_size t2 (a := 0) (b := t2.size - 1) (by omega) (by omega)
     have ht1 : ((t2.size : Int) - 1).toNat = t2.size - 1 := by omega
     have ht0 : (0 : Int) ≤ (t2.size : Int) - 1 := by omega
     have htl : (t2.size : Int) - 1 ≤ (t2.size : Int) := by omega
     clear hpre hco HT
     go_wp2_with fail
     refine (HP.out _).mono ?_
     rintro e' w1 ⟨rfl, rfl⟩
     go_wp2
     go_round
     case rel => exact ⟨_, rfl, by omega, HT2⟩
     case measure => show (t2.extract 0 (t2.size - 1)).size < t2.size; omega
    ·have hco := comOne_yes hpre
     rw [HT.out] at hco
     have HF3 := HF2.out
     rw [hco] at HF3
     have HF4 := Lib.hid HF3
     rw [hpre] at HP
     clear hpre hco HT HF3 HF2
     go_wp2_with fail
     refine (HP.out _).mono ?_
     rintro e' w1 ⟨rfl, rfl⟩
     go_wp2
     go_roundw
     case rel => exact ⟨k + 1, t2, by omega, by go_num, rfl, ht2, HF4, hb1⟩
     case measure => simp [RowKit.intOf]; omega
  ·obtain rfl : k = l.length := by omega
   have hf := HF.out
   rw [List.drop_eq_nil_of_le (by rw [List.length_map]; exact Nat.le_refl _)] at hf
   have HF2 := Lib.hid hf
   clear hf HF
   go_wp2
   go_ret
   exact ⟨ret_str HF2.out, hbw⟩
def GivesWays (w : World) (pl : List Pw) (e : Ending) (w' : World) : Prop :=
 ∃ A c, ∃ l : List Wy, e = .returned (.slice A l.length c) ∧ l.map plW = pl ∧ w'.ownsRow w.heap.size 192 2 (.slice A l.length c) l.length (flatW l) ∧ WOk w' l ∧ Below w.heap.size w w'
theorem gives_ways {w w' : World} {pl : List Pw} {l : List Wy} {v : Value} (hl : l.map plW = pl) (ho : w'.ownsRow w.heap.size 192 2 v l.length (flatW l)) (hw : WOk w' l) (hb : Below w.heap.size w w') : GivesWays w pl (.returned v) w' := by
 obtain ⟨A, c, rfl⟩ := own_slice ho
 exact ⟨A, c, l, rfl, hl, ho, hw, hb⟩
set_option maxRecDepth 20000 in
set_option maxHeartbeats 8000000 in
theorem cut_any (A : Option Addr) (c : Nat) (l : List Wy) (n : Nat) (w : World) (hr : Row w A (flatW l)) (ho : WOk w l) (hl : l.length ≤ 4194304) (hne : ∀ x ∈ l, x.2.2 ≠ [] ∧ x.2.2.length ≤ 4194304 ∧ n ≤ (txt (plW x)).size ∧ (txt (plW x)).size ≤ 4194304) :
  Calls Tryz.prog 151 #[.slice A l.length c, .int .i64 (n : Int)] w (GivesWays w (cutP n (l.map plW))) := by
 obtain ⟨i0, hi0, hz0, hz1, hz2⟩ := info_parts info_piece
 obtain ⟨j0, hj0, hy0, hy1, hy2⟩ := info_parts info_way
 have HNE := Lib.hid hne
 have HOK := Lib.hid ho
 have HR := Lib.hid hr
 clear hne ho hr
 go_enter Tryz.func151, Tryz.ntmps151
 go_wp2
 go_loopw [5, 12] (fun v i wr => ∃ (k : Nat) (out : List Wy), k ≤ l.length ∧ i = .int .i64 k ∧ out.length ≤ k ∧ Hid (out.map plW = cutP n ((l.take k).map plW)) ∧ wr.ownsRow w.heap.size 192 2 v out.length (flatW out) ∧ Hid (WOk wr out) ∧ Below w.heap.size w wr) (fun _ i _ => l.length - (RowKit.intOf i).toNat)
 case atStart => exact ⟨0, [], by omega, rfl, Nat.le_refl _, Lib.hid rfl, World.ownsRow_nil _ _ _ _, Lib.hid (fun x hx => by cases hx), Below.refl _ _⟩
 case round =>
  obtain ⟨k, out, hk, rfl, hol, HM, hown, HW, hbw⟩ := hrel
  obtain ⟨OA, Oc, rfl⟩ := own_slice hown
  by_cases hlt : k < l.length
  ·obtain ⟨x, hx⟩ := some_of_lt hlt
   have hmem := List.mem_of_getElem? hx
   obtain ⟨bx, offx, rfl, hbx, g0, g1⟩ := (HR.out.below hbw).way hx
   obtain ⟨hxn, hxl, hxs, hxz⟩ := HNE.out x hmem
   obtain ⟨p, r, hp⟩ : ∃ p r, x.2.2 = p :: r := by
    cases e : x.2.2 with
    | nil => exact absurd e hxn
    | cons p r => exact ⟨p, r, rfl⟩
   have hw1 := (HOK.out x hmem).below hbw
   obtain ⟨bp, offp, ep, hbp, f0, f1⟩ := way_first hw1.1 hp
   rw [txt_of hp] at hxs hxz
   have hcut := show cutOne n (plW x) = (x.1, if (p.2.extract n p.2.size).size = 0 then r else (0, p.2.extract n p.2.size) :: r) by
    unfold cutOne
    rw [txt_of hp]
    unfold plW
    rw [hp]
    rfl
   have hst := show cutP n ((l.take (k + 1)).map plW) = cutP n ((l.take k).map plW) ++ [cutOne n (plW x)] by
    unfold cutP
    rw [take_snoc hx, List.map_append, List.map_append]
    rfl
   obtain ⟨hw2, hwt, hw3, hw4⟩ := hw1
   rw [ep] at hwt
   rw [ep, hp] at hw2
   rw [hp] at hw3 hxl
   have hrow := hw2.behind
   rw [ep, hp] at g1
   have hb1 := hbw.alloc hbw.size (.cells #[.int .i64 (x.1 : Int), .slice (some ⟨bp, offp, none⟩) (p :: r).length x.2.1.2] 192)
   have hown1 := hown.alloc (.cells #[.int .i64 (x.1 : Int), .slice (some ⟨bp, offp, none⟩) (p :: r).length x.2.1.2] 192)
   rw [List.length_cons] at hw3 hxl
   have hz := ext_size p.2 (a := n) (b := p.2.size) (by omega) (Nat.le_refl _)
   obtain ⟨cp, hcp⟩ : ∃ cp, cp = x.2.1.2 := ⟨_, rfl⟩
   obtain ⟨en, hen⟩ : ∃ en, en = x.1 := ⟨_, rfl⟩
   rw [← hcp] at g1 hb1 hown1 hw3 hw4
   rw [← hen] at g0 hb1 hown1 hcut
   have hnx : (n : Int) ≤ (p.2.size : Int) := by omega
   obtain ⟨lf, hlf⟩ : ∃ lf, p.2.extract n p.2.size = lf := ⟨_, rfl⟩
   rw [hlf] at hcut hz
   rw [List.length_cons] at g1 hb1 hown1
   have HCUT := Lib.hid hcut
   have HST := Lib.hid hst
   have HROW := Lib.hid hrow
   clear hcut hst hx hmem hxn ep hp hcp hen hw2 hrow
   by_cases hc1 : cp = 1
   ·subst hc1
    obtain rfl : r = [] := List.eq_nil_of_length_eq_zero (by omega)
    by_cases hlz : lf.size = 0
    ·have he : lf.toList.isEmpty = true := by rw [empty_eq]; exact decide_eq_true hlz
     have HONE := Lib.hid (show WOne wr (en, (some ⟨bp, offp, none⟩, 0), []) from ⟨fun h => absurd h (Nat.lt_irrefl 0), hwt, Nat.le_refl _, Nat.zero_le _⟩)
     go_wp2_with (at_builtin; refine wpList_append_any _ rfl (.tmp 33) (.tmp 38) 189 rfl w.heap.size 192 j0 (.agg #[.int .i64 0, .slice none 0 0]) 2 32 Tryz.underlying189 hj0 hy0 hy1 hy2 rfl (by decide) _ _ _ rfl (hown1.alloc _) _ (some ⟨wr.heap.size + 1, 0, none⟩) 1 1 [.int .i64 (en : Int), .slice (some ⟨bp, offp, none⟩) 0 0] rfl (reads_of_row (row_newc (wr.alloc (.cells #[.int .i64 (en : Int), .slice (some ⟨bp, offp, none⟩) 1 1] 192)) _ 192 (by simp)) rfl (by decide)) ?a1 ?a2 ?a3 ?a4 ?a5)
     case a1 => first | exact ⟨rfl, rfl⟩ | (intro u hu; simp at hu; rcases hu with rfl | rfl <;> rfl)
     case a2 => unfold maxLen; omega
     case a3 => omega
     case a4 => (try simp); have := hb1.size; (try simp at this); omega
     case a5 =>
      intro va wa howna hga _
      have hba := (hb1.alloc (hb1.size) _).grown hga (by (try simp); have := hb1.size; (try simp at this); omega) (own_lt hown1)
      have hoa : wa.ownsRow w.heap.size 192 2 va (out ++ [((en, (some ⟨bp, offp, none⟩, 0), []) : Wy)]).length (flatW (out ++ [((en, (some ⟨bp, offp, none⟩, 0), []) : Wy)])) := by rw [flatW_append, List.length_append]; exact howna
      have HM2 := Lib.hid (show (out ++ [((en, (some ⟨bp, offp, none⟩, 0), []) : Wy)]).map plW = cutP n ((l.take (k + 1)).map plW) by rw [List.map_append, HM.out, HST.out, HCUT.out, if_pos hlz]; rfl)
      have HO := Lib.hid hoa
      have HB := Lib.hid hba
      have HW2 := Lib.hid ((((WOk.append HW.out (WOk.one HONE.out)).alloc _).alloc _).grown (hown1.alloc _) (by decide) hga)
      clear hoa hba howna hga
      go_wp2
      go_roundw
      case rel => exact ⟨k + 1, _, by omega, by go_num, by rw [List.length_append]; simp; omega, HM2, HO.out, HW2, HB.out⟩
      case measure => simp [RowKit.intOf]; omega
    ·have he : lf.toList.isEmpty = false := by rw [empty_eq]; exact decide_eq_false hlz
     have hrow2 : Row ((wr.alloc (.cells #[.int .i64 (en : Int), .slice (some ⟨bp, offp, none⟩) 1 1] 192)).alloc (.cells #[.int .i64 0, .string lf] 109)) (some ⟨bp, offp, none⟩) (flatP []) := ((show WOne wr (en, (some ⟨bp, offp, none⟩, 0), []) from ⟨fun h => absurd h (Nat.lt_irrefl 0), hwt, Nat.le_refl _, Nat.zero_le _⟩).1.alloc _).alloc _
     have hlit := World.ownsRow_lit (base := w.heap.size) (e := 109) (size := 2) (wr.alloc (.cells #[.int .i64 (en : Int), .slice (some ⟨bp, offp, none⟩) 1 1] 192)) #[.int .i64 0, .string lf] 1 hb1.size (by unfold maxLen; omega) rfl
     have hlit2 : ((wr.alloc (.cells #[.int .i64 (en : Int), .slice (some ⟨bp, offp, none⟩) 1 1] 192)).alloc (.cells #[.int .i64 0, .string lf] 109)).ownsRow w.heap.size 109 2 (.slice (some ⟨wr.heap.size + 1, 0, none⟩) 1 1) 1 [.int .i64 0, .string lf] := by simpa using hlit
     clear hlit
     go_wp2_with (at_builtin; refine wpList_append_any _ rfl (.tmp 30) (.tmp 31) 104 rfl w.heap.size 109 i0 (.agg #[.int .i64 0, .string ⟨#[]⟩]) 2 24 Tryz.underlying104 hi0 hz0 hz1 hz2 rfl (by decide) _ _ _ rfl hlit2 _ (some ⟨bp, offp, none⟩) 0 (0) (flatP []) rfl (reads_of_row hrow2 (flatP_length []) (by decide)) ?b1 ?b2 ?b3 ?b4 ?b5)
     case b1 => exact flatP_oneCell []
     case b2 => unfold maxLen; omega
     case b3 => omega
     case b4 => (try simp); have := hb1.size; (try simp at this); omega
     case b5 =>
      intro v2 w2 hown2 hg2 _
      have hown2' : w2.ownsRow w.heap.size 109 2 v2 (((0, lf) :: [] : List Pc)).length (flatP ((0, lf) :: [])) := by first | exact hown2 | (rw [List.length_cons, Nat.add_comm]; exact hown2)
      obtain ⟨A2, c2, rfl⟩ := own_slice hown2'
      have HONE2 := Lib.hid (WOne.own (k := en) hown2')
      have hbl : Below wr.heap.size wr w2 := (((Below.refl _ _).alloc (Nat.le_refl _) _).alloc (by simp) _).grown hg2 (by simp; omega) (fun q hq => by simp [Value.ownBlock] at hq; omega)
      have HW3 := Lib.hid (HW.out.below hbl)
      have hown3 := own_below hown hbl
      have hb3 := hbw.trans (hbl.mono hbw.size)
      have hbx : w2.cell? ⟨wr.heap.size, 0, none⟩ = some (.int .i64 (en : Int)) := (cell_far hg2 ⟨wr.heap.size, 0, none⟩ (by simp; omega) (by simp [Value.ownBlock])).trans (by simp)
      clear hown2 hown2' hg2 hbl hown hown1 hb1 hlit2 hrow2 HW
      go_wp2_with (at_builtin; refine wpList_append_any _ rfl (.tmp 33) (.tmp 38) 189 rfl w.heap.size 192 j0 (.agg #[.int .i64 0, .slice none 0 0]) 2 32 Tryz.underlying189 hj0 hy0 hy1 hy2 rfl (by decide) _ _ _ rfl (hown3.alloc _) _ (some ⟨w2.heap.size, 0, none⟩) 1 1 [.int .i64 (en : Int), .slice A2 (((0, lf) :: [] : List Pc)).length c2] rfl (reads_of_row (row_newc w2 _ 192 (by simp)) rfl (by decide)) ?d1 ?d2 ?d3 ?d4 ?d5)
      case d1 => first | exact ⟨rfl, rfl⟩ | (intro u hu; simp at hu; rcases hu with rfl | rfl <;> rfl)
      case d2 => unfold maxLen; omega
      case d3 => omega
      case d4 => (try simp); have := hb3.size; (try simp at this); omega
      case d5 =>
       intro vd wd hownd hgd _
       have hbd := (hb3.alloc (hb3.size) _).grown hgd (by (try simp); have := hb3.size; (try simp at this); omega) (own_lt hown3)
       have hod : wd.ownsRow w.heap.size 192 2 vd (out ++ [((en, (A2, c2), ((0, lf) :: [] : List Pc)) : Wy)]).length (flatW (out ++ [((en, (A2, c2), ((0, lf) :: [] : List Pc)) : Wy)])) := by rw [flatW_append, List.length_append]; exact hownd
       have HM2 := Lib.hid (show (out ++ [((en, (A2, c2), ((0, lf) :: [] : List Pc)) : Wy)]).map plW = cutP n ((l.take (k + 1)).map plW) by rw [List.map_append, HM.out, HST.out, HCUT.out, if_neg hlz]; rfl)
       have HO := Lib.hid hod
       have HB := Lib.hid hbd
       have HW2 := Lib.hid (((WOk.append HW3.out (WOk.one HONE2.out)).alloc _).grown (hown3.alloc _) (by decide) hgd)
       clear hod hbd hownd hgd
       go_wp2
       go_roundw
       case rel => exact ⟨k + 1, _, by omega, by go_num, by rw [List.length_append]; simp; omega, HM2, HO.out, HW2, HB.out⟩
       case measure => simp [RowKit.intOf]; omega
   ·have hc2 : ¬ cp ≤ 1 := by omega
    by_cases hlz : lf.size = 0
    ·have he : lf.toList.isEmpty = true := by rw [empty_eq]; exact decide_eq_true hlz
     have HONE := Lib.hid (show WOne wr (en, (some ⟨bp, offp + 2, none⟩, (cp - 1)), r) from ⟨HROW.out, hwt.shift, by show r.length ≤ cp - 1; omega, by show cp - 1 ≤ maxLen; omega⟩)
     go_wp2_with (at_builtin; refine wpList_append_any _ rfl (.tmp 33) (.tmp 38) 189 rfl w.heap.size 192 j0 (.agg #[.int .i64 0, .slice none 0 0]) 2 32 Tryz.underlying189 hj0 hy0 hy1 hy2 rfl (by decide) _ _ _ rfl (hown1.alloc _) _ (some ⟨wr.heap.size + 1, 0, none⟩) 1 1 [.int .i64 (en : Int), .slice (some ⟨bp, offp + 2, none⟩) r.length (cp - 1)] rfl (reads_of_row (row_newc (wr.alloc (.cells #[.int .i64 (en : Int), .slice (some ⟨bp, offp, none⟩) (r.length + 1) cp] 192)) _ 192 (by simp)) rfl (by decide)) ?a1 ?a2 ?a3 ?a4 ?a5)
     case a1 => first | exact ⟨rfl, rfl⟩ | (intro u hu; simp at hu; rcases hu with rfl | rfl <;> rfl)
     case a2 => unfold maxLen; omega
     case a3 => omega
     case a4 => (try simp); have := hb1.size; (try simp at this); omega
     case a5 =>
      intro va wa howna hga _
      have hba := (hb1.alloc (hb1.size) _).grown hga (by (try simp); have := hb1.size; (try simp at this); omega) (own_lt hown1)
      have hoa : wa.ownsRow w.heap.size 192 2 va (out ++ [((en, (some ⟨bp, offp + 2, none⟩, (cp - 1)), r) : Wy)]).length (flatW (out ++ [((en, (some ⟨bp, offp + 2, none⟩, (cp - 1)), r) : Wy)])) := by rw [flatW_append, List.length_append]; exact howna
      have HM2 := Lib.hid (show (out ++ [((en, (some ⟨bp, offp + 2, none⟩, (cp - 1)), r) : Wy)]).map plW = cutP n ((l.take (k + 1)).map plW) by rw [List.map_append, HM.out, HST.out, HCUT.out, if_pos hlz]; rfl)
      have HO := Lib.hid hoa
      have HB := Lib.hid hba
      have HW2 := Lib.hid ((((WOk.append HW.out (WOk.one HONE.out)).alloc _).alloc _).grown (hown1.alloc _) (by decide) hga)
      clear hoa hba howna hga
      go_wp2
      go_roundw
      case rel => exact ⟨k + 1, _, by omega, by go_num, by rw [List.length_append]; simp; omega, HM2, HO.out, HW2, HB.out⟩
      case measure => simp [RowKit.intOf]; omega
    ·have he : lf.toList.isEmpty = false := by rw [empty_eq]; exact decide_eq_false hlz
     have hrow2 : Row ((wr.alloc (.cells #[.int .i64 (en : Int), .slice (some ⟨bp, offp, none⟩) (r.length + 1) cp] 192)).alloc (.cells #[.int .i64 0, .string lf] 109)) (some ⟨bp, offp + 2, none⟩) (flatP r) := ((show WOne wr (en, (some ⟨bp, offp + 2, none⟩, (cp - 1)), r) from ⟨HROW.out, hwt.shift, by show r.length ≤ cp - 1; omega, by show cp - 1 ≤ maxLen; omega⟩).1.alloc _).alloc _
     have hlit := World.ownsRow_lit (base := w.heap.size) (e := 109) (size := 2) (wr.alloc (.cells #[.int .i64 (en : Int), .slice (some ⟨bp, offp, none⟩) (r.length + 1) cp] 192)) #[.int .i64 0, .string lf] 1 hb1.size (by unfold maxLen; omega) rfl
     have hlit2 : ((wr.alloc (.cells #[.int .i64 (en : Int), .slice (some ⟨bp, offp, none⟩) (r.length + 1) cp] 192)).alloc (.cells #[.int .i64 0, .string lf] 109)).ownsRow w.heap.size 109 2 (.slice (some ⟨wr.heap.size + 1, 0, none⟩) 1 1) 1 [.int .i64 0, .string lf] := by simpa using hlit
     clear hlit
     go_wp2_with (at_builtin; refine wpList_append_any _ rfl (.tmp 30) (.tmp 31) 104 rfl w.heap.size 109 i0 (.agg #[.int .i64 0, .string ⟨#[]⟩]) 2 24 Tryz.underlying104 hi0 hz0 hz1 hz2 rfl (by decide) _ _ _ rfl hlit2 _ (some ⟨bp, offp + 2, none⟩) r.length ((cp - 1)) (flatP r) rfl (reads_of_row hrow2 (flatP_length r) (by decide)) ?b1 ?b2 ?b3 ?b4 ?b5)
     case b1 => exact flatP_oneCell r
     case b2 => unfold maxLen; omega
     case b3 => omega
     case b4 => (try simp); have := hb1.size; (try simp at this); omega
     case b5 =>
      intro v2 w2 hown2 hg2 _
      have hown2' : w2.ownsRow w.heap.size 109 2 v2 (((0, lf) :: r : List Pc)).length (flatP ((0, lf) :: r)) := by first | exact hown2 | (rw [List.length_cons, Nat.add_comm]; exact hown2)
      obtain ⟨A2, c2, rfl⟩ := own_slice hown2'
      have HONE2 := Lib.hid (WOne.own (k := en) hown2')
      have hbl : Below wr.heap.size wr w2 := (((Below.refl _ _).alloc (Nat.le_refl _) _).alloc (by simp) _).grown hg2 (by simp; omega) (fun q hq => by simp [Value.ownBlock] at hq; omega)
      have HW3 := Lib.hid (HW.out.below hbl)
      have hown3 := own_below hown hbl
      have hb3 := hbw.trans (hbl.mono hbw.size)
      have hbx : w2.cell? ⟨wr.heap.size, 0, none⟩ = some (.int .i64 (en : Int)) := (cell_far hg2 ⟨wr.heap.size, 0, none⟩ (by simp; omega) (by simp [Value.ownBlock])).trans (by simp)
      clear hown2 hown2' hg2 hbl hown hown1 hb1 hlit2 hrow2 HW
      go_wp2_with (at_builtin; refine wpList_append_any _ rfl (.tmp 33) (.tmp 38) 189 rfl w.heap.size 192 j0 (.agg #[.int .i64 0, .slice none 0 0]) 2 32 Tryz.underlying189 hj0 hy0 hy1 hy2 rfl (by decide) _ _ _ rfl (hown3.alloc _) _ (some ⟨w2.heap.size, 0, none⟩) 1 1 [.int .i64 (en : Int), .slice A2 (((0, lf) :: r : List Pc)).length c2] rfl (reads_of_row (row_newc w2 _ 192 (by simp)) rfl (by decide)) ?d1 ?d2 ?d3 ?d4 ?d5)
      case d1 => first | exact ⟨rfl, rfl⟩ | (intro u hu; simp at hu; rcases hu with rfl | rfl <;> rfl)
      case d2 => unfold maxLen; omega
      case d3 => omega
      case d4 => (try simp); have := hb3.size; (try simp at this); omega
      case d5 =>
       intro vd wd hownd hgd _
       have hbd := (hb3.alloc (hb3.size) _).grown hgd (by (try simp); have := hb3.size; (try simp at this); omega) (own_lt hown3)
       have hod : wd.ownsRow w.heap.size 192 2 vd (out ++ [((en, (A2, c2), ((0, lf) :: r : List Pc)) : Wy)]).length (flatW (out ++ [((en, (A2, c2), ((0, lf) :: r : List Pc)) : Wy)])) := by rw [flatW_append, List.length_append]; exact hownd
       have HM2 := Lib.hid (show (out ++ [((en, (A2, c2), ((0, lf) :: r : List Pc)) : Wy)]).map plW = cutP n ((l.take (k + 1)).map plW) by rw [List.map_append, HM.out, HST.out, HCUT.out, if_neg hlz]; rfl)
       have HO := Lib.hid hod
       have HB := Lib.hid hbd
       have HW2 := Lib.hid (((WOk.append HW3.out (WOk.one HONE2.out)).alloc _).grown (hown3.alloc _) (by decide) hgd)
       clear hod hbd hownd hgd
       go_wp2
       go_roundw
       case rel => exact ⟨k + 1, _, by omega, by go_num, by rw [List.length_append]; simp; omega, HM2, HO.out, HW2, HB.out⟩
       case measure => simp [RowKit.intOf]; omega
  ·obtain rfl : k = l.length := by omega
   have hm := HM.out
   rw [List.take_length] at hm
   have HM2 := Lib.hid hm
   clear hm HM
   go_wp2
   go_ret
   exact gives_ways HM2.out hown HW.out hbw
def Hold (S : Nat → Prop) (w w' : World) : Prop := w.heap.size ≤ w'.heap.size ∧ ∀ b, S b → b < w.heap.size → w'.heap[b]? = w.heap[b]?
theorem Hold.of_below {S : Nat → Prop} {w w' : World} (h : Below w.heap.size w w') : Hold S w w' := ⟨h.size, fun b _ hb => h.block b hb⟩
theorem Hold.of_grown {S : Nat → Prop} {w w' : World} {row : Option Nat} (h : w.grownBy w' row) (hr : ∀ b, row = some b → ¬ S b) : Hold S w w' :=
 ⟨h.size, fun b hlo hb => h.block b hb (fun e => hr b e.symm hlo)⟩
theorem Hold.cell {S : Nat → Prop} {w w' : World} (h : Hold S w w') (p : Addr) (h1 : S p.block) (h2 : p.block < w.heap.size) : w'.cell? p = w.cell? p := World.cell?_of_block (h.2 p.block h1 h2)
def RowF (S : Nat → Prop) (w : World) (A : Option Addr) (xs : List Value) : Prop := 0 < xs.length → ∃ b off, A = some ⟨b, off, none⟩ ∧ S b ∧ b < w.heap.size ∧ ∀ j v, xs[j]? = some v → w.cell? ⟨b, off + j, none⟩ = some v
theorem RowF.row {S : Nat → Prop} {w : World} {A : Option Addr} {xs : List Value} (h : RowF S w A xs) : Row w A xs := fun hl => by
 obtain ⟨b, off, e, _, h2, h3⟩ := h hl
 exact ⟨b, off, e, h2, h3⟩
theorem RowF.hold {S : Nat → Prop} {w w' : World} {A : Option Addr} {xs : List Value} (h : RowF S w A xs) (hh : Hold S w w') : RowF S w' A xs := fun hl => by
 obtain ⟨b, off, e, h1, h2, h3⟩ := h hl
 exact ⟨b, off, e, h1, Nat.lt_of_lt_of_le h2 hh.1, fun j v hv => (hh.cell ⟨b, off + j, none⟩ h1 h2).trans (h3 j v hv)⟩
theorem RowF.mono {S S' : Nat → Prop} {w : World} {A : Option Addr} {xs : List Value} (h : RowF S w A xs) (hl : ∀ b, S b → b < w.heap.size → S' b) : RowF S' w A xs := fun h0 => by
 obtain ⟨b, off, e, h1, h2, h3⟩ := h h0
 exact ⟨b, off, e, hl b h1 h2, h2, h3⟩
theorem RowF.own {S : Nat → Prop} {base sz n c : Nat} {w : World} {E : TypeId} {A : Option Addr} {xs : List Value} (h : w.ownsRow base E sz (.slice A n c) n xs) (hl : ∀ b, (Value.slice A n c).ownBlock = some b → S b) : RowF S w A xs := fun h0 => by
 obtain ⟨b, off, e, h1, h2⟩ := own_row h h0
 have hb : (Value.slice A n c).ownBlock = some b := by rw [e]; rfl
 exact ⟨b, off, e, hl b hb, h1, h2⟩
def At (S : Nat → Prop) : Tr → (World → Value → Prop) × (World → List Value → List Value → Prop)
 | .none => (fun _ v => v = .pointer none, fun _ ts ps => ts = [] ∧ ps = [])
 | .node ends kids param rest => (fun w v => ∃ b TA tc KA kc ts ps pv rv, v = .pointer (some ⟨b, 0, none⟩) ∧ S b ∧ b < w.heap.size ∧
   w.cell? ⟨b, 0, none⟩ = some (.slice TA ts.length tc) ∧ w.cell? ⟨b, 1, none⟩ = some (.slice KA ps.length kc) ∧ w.cell? ⟨b, 2, none⟩ = some pv ∧ w.cell? ⟨b, 3, none⟩ = some rv ∧ w.cell? ⟨b, 4, none⟩ = some (.int .i64 (ends : Int)) ∧
   RowF S w TA ts ∧ RowF S w KA ps ∧ (At S kids).2 w ts ps ∧ (At S param).1 w pv ∧ (At S rest).1 w rv, fun _ _ _ => False)
 | .kid text t more => (fun _ _ => False, fun w ts ps => ∃ p ts' ps', ts = .string text :: ts' ∧ ps = p :: ps' ∧ (At S t).1 w p ∧ (At S more).2 w ts' ps')
theorem At.hold {S : Nat → Prop} {w w' : World} (hh : Hold S w w') : ∀ T : Tr, (∀ v, (At S T).1 w v → (At S T).1 w' v) ∧ (∀ ts ps, (At S T).2 w ts ps → (At S T).2 w' ts ps)
 | .none => ⟨fun _ h => h, fun _ _ h => h⟩
 | .node ends kids param rest => ⟨fun v h => by
   obtain ⟨b, TA, tc, KA, kc, ts, ps, pv, rv, h1, h2, h3, c0, c1, c2, c3, c4, r1, r2, k1, k2, k3⟩ := h
   have hc : ∀ i, w'.cell? ⟨b, i, none⟩ = w.cell? ⟨b, i, none⟩ := fun i => hh.cell ⟨b, i, none⟩ h2 h3
   exact ⟨b, TA, tc, KA, kc, ts, ps, pv, rv, h1, h2, Nat.lt_of_lt_of_le h3 hh.1, (hc 0).trans c0, (hc 1).trans c1, (hc 2).trans c2, (hc 3).trans c3, (hc 4).trans c4, r1.hold hh, r2.hold hh, (At.hold hh kids).2 _ _ k1, (At.hold hh param).1 _ k2, (At.hold hh rest).1 _ k3⟩,
  fun _ _ h => h.elim⟩
 | .kid text t more => ⟨fun _ h => h.elim, fun ts ps h => by
   obtain ⟨p, ts', ps', e1, e2, h1, h2⟩ := h
   exact ⟨p, ts', ps', e1, e2, (At.hold hh t).1 _ h1, (At.hold hh more).2 _ _ h2⟩⟩
theorem At.mono {S S' : Nat → Prop} {w : World} (hl : ∀ b, S b → b < w.heap.size → S' b) : ∀ T : Tr, (∀ v, (At S T).1 w v → (At S' T).1 w v) ∧ (∀ ts ps, (At S T).2 w ts ps → (At S' T).2 w ts ps)
 | .none => ⟨fun _ h => h, fun _ _ h => h⟩
 | .node ends kids param rest => ⟨fun v h => by
   obtain ⟨b, TA, tc, KA, kc, ts, ps, pv, rv, h1, h2, h3, c0, c1, c2, c3, c4, r1, r2, k1, k2, k3⟩ := h
   exact ⟨b, TA, tc, KA, kc, ts, ps, pv, rv, h1, hl b h2 h3, h3, c0, c1, c2, c3, c4, r1.mono hl, r2.mono hl, (At.mono hl kids).2 _ _ k1, (At.mono hl param).1 _ k2, (At.mono hl rest).1 _ k3⟩,
  fun _ _ h => h.elim⟩
 | .kid text t more => ⟨fun _ h => h.elim, fun ts ps h => by
   obtain ⟨p, ts', ps', e1, e2, h1, h2⟩ := h
   exact ⟨p, ts', ps', e1, e2, (At.mono hl t).1 _ h1, (At.mono hl more).2 _ _ h2⟩⟩
def KL (S : Nat → Prop) (w : World) : List (ByteArray × Tr) → List Value → Prop
 | [], [] => True
 | x :: l, p :: ps => (At S x.2).1 w p ∧ KL S w l ps
 | _, _ => False
theorem KL.length {S : Nat → Prop} {w : World} : ∀ (l : List (ByteArray × Tr)) (ps : List Value), KL S w l ps → ps.length = l.length
 | [], [], _ => rfl
 | _ :: l, _ :: ps, h => by rw [List.length_cons, List.length_cons, KL.length l ps h.2]
 | [], _ :: _, h => h.elim
 | _ :: _, [], h => h.elim
theorem KL.snoc {S : Nat → Prop} {w : World} {x : ByteArray × Tr} {p : Value} : ∀ (l : List (ByteArray × Tr)) (ps : List Value), KL S w l ps → (At S x.2).1 w p → KL S w (l ++ [x]) (ps ++ [p])
 | [], [], _, h => ⟨h, trivial⟩
 | _ :: l, _ :: ps, hk, h => ⟨hk.1, KL.snoc l ps hk.2 h⟩
 | [], _ :: _, hk, _ => hk.elim
 | _ :: _, [], hk, _ => hk.elim
theorem KL.hold {S : Nat → Prop} {w w' : World} (hh : Hold S w w') : ∀ (l : List (ByteArray × Tr)) (ps : List Value), KL S w l ps → KL S w' l ps
 | [], [], h => h
 | x :: l, _ :: ps, h => ⟨(At.hold hh x.2).1 _ h.1, KL.hold hh l ps h.2⟩
 | [], _ :: _, h => h.elim
 | _ :: _, [], h => h.elim
theorem KL.mono {S S' : Nat → Prop} {w : World} (hl : ∀ b, S b → b < w.heap.size → S' b) : ∀ (l : List (ByteArray × Tr)) (ps : List Value), KL S w l ps → KL S' w l ps
 | [], [], h => h
 | x :: l, _ :: ps, h => ⟨(At.mono hl x.2).1 _ h.1, KL.mono hl l ps h.2⟩
 | [], _ :: _, h => h.elim
 | _ :: _, [], h => h.elim
theorem KL.chain {S : Nat → Prop} {w : World} : ∀ (l : List (ByteArray × Tr)) (ps : List Value), KL S w l ps → (At S (chain l)).2 w (l.map fun x => .string x.1) ps
 | [], [], _ => ⟨rfl, rfl⟩
 | _ :: l, p :: ps, h => ⟨p, _, _, rfl, rfl, h.1, KL.chain l ps h.2⟩
 | [], _ :: _, h => h.elim
 | _ :: _, [], h => h.elim
def GivesNode (w : World) (T : Tr) (e : Ending) (w' : World) : Prop := ∃ q : Option Addr, e = .returned (.pointer q) ∧ (At (fun b => w.heap.size ≤ b) T).1 w' (.pointer q) ∧ Below w.heap.size w w'
structure Gth (ws : List Pw) (G : Nat → List Wy) : Prop where
 group : ∀ c, c < 256 → (G c).map plW = groupP c ws
 param : (G 256).map plW = edgeP 1 ws
 rest : (G 257).map plW = edgeP 2 ws
theorem Gth.start : Gth [] (fun _ => []) := ⟨fun _ _ => rfl, rfl, rfl⟩
section
variable {ws : List Pw} {G : Nat → List Wy} {x : Wy}
theorem Gth.ends (h : Gth ws G) (hx : x.2.2 = []) : Gth (ws ++ [plW x]) G := by
 have hp : (plW x).2 = [] := hx
 refine ⟨fun c hc => ?_, ?_, ?_⟩
 ·rw [groupP_snoc, h.group c hc]; unfold groupOne; rw [hp]; simp
 ·rw [edgeP_snoc, h.param]; unfold edgeOne; rw [hp]; simp
 ·rw [edgeP_snoc, h.rest]; unfold edgeOne; rw [hp]; simp
theorem Gth.edge (h : Gth ws G) {p : Pc} {r : List Pc} (hx : x.2.2 = p :: r) {y : Wy} (hy : plW y = (x.1, r)) (k : Nat) (hk : (k = 256 ∧ p.1 = 1) ∨ (k = 257 ∧ p.1 = 2)) : Gth (ws ++ [plW x]) (upd G k (G k ++ [y])) := by
 have hp : (plW x).2 = p :: r := hx
 have hx1 : (plW x).1 = x.1 := rfl
 refine ⟨fun c hc => ?_, ?_, ?_⟩
 ·rw [upd_other (by omega), groupP_snoc, h.group c hc]
  unfold groupOne
  rw [hp]
  dsimp only
  rw [if_pos (by omega)]
  simp
 ·rw [edgeP_snoc]
  unfold edgeOne
  rw [hp]
  dsimp only
  rcases hk with ⟨rfl, e⟩ | ⟨rfl, e⟩
  ·rw [upd_same, if_pos e, List.map_append, h.param, hx1]
   simp [hy]
  ·rw [upd_other (by decide), if_neg (by omega), h.param]
   simp
 ·rw [edgeP_snoc]
  unfold edgeOne
  rw [hp]
  dsimp only
  rcases hk with ⟨rfl, e⟩ | ⟨rfl, e⟩
  ·rw [upd_other (by decide), if_neg (by omega), h.rest]
   simp
  ·rw [upd_same, if_pos e, List.map_append, h.rest, hx1]
   simp [hy]
theorem Gth.text (h : Gth ws G) {p : Pc} {r : List Pc} (hx : x.2.2 = p :: r) (h1 : ¬ p.1 = 1) (h2 : ¬ p.1 = 2) {c : Nat} (hc : c < 256) (hb : bt p.2 0 = c) : Gth (ws ++ [plW x]) (upd G c (G c ++ [x])) := by
 have hp : (plW x).2 = p :: r := hx
 refine ⟨fun d hd => ?_, ?_, ?_⟩
 ·rw [groupP_snoc]
  unfold groupOne
  rw [hp]
  dsimp only
  rw [if_neg (by omega)]
  by_cases e : d = c
  ·subst e
   rw [upd_same, if_pos hb, List.map_append, h.group d hd]
   simp
  ·rw [upd_other e, if_neg (by omega), h.group d hd]
   simp
 ·rw [upd_other (by omega), edgeP_snoc, h.param]
  unfold edgeOne
  rw [hp]
  dsimp only
  rw [if_neg h1]
  simp
 ·rw [upd_other (by omega), edgeP_snoc, h.rest]
  unfold edgeOne
  rw [hp]
  dsimp only
  rw [if_neg h2]
  simp
end
end Go.Proofs.YtiohmnhbmmhnhaaGreatDoor
namespace Go.Proofs.YtiohmnhbmmhnhaaGreatDoor
open Go
open Go.RowKit Go.Shelf Go.Lib Go.Maps Go.WideMaps
section
variable {P : Program} {ops : Array Oper} {Q : Exit → Act → World → Prop} {md : Region.Mode} {S : World → Prop} {t : Nat}
def anyT (P : Program) (md : Region.Mode) (ops : Array Oper) (Q : Exit → Act → World → Prop) (S : World → Prop) (t : Nat) : Nat → Array Bool → Act → World → Prop
 | 0, listed, a, w => Region.ready md ops listed = [] ∧ Q .normal a w
 | fuel + 1, listed, a, w =>
  (Region.ready md ops listed = [] → Q .normal a w) ∧
  ∀ i ∈ Region.ready md ops listed, wpOp P ops Q i (fun a' w' => ((listed.setIfInBounds i true).getD t false = true ∨ S w') ∧ anyT P md ops Q S t fuel (listed.setIfInBounds i true) a' w') a w
theorem any_of_T : ∀ (fuel : Nat) (listed : Array Bool) (a : Act) (w : World), anyT P md ops Q S t fuel listed a w → wpAny P md ops Q fuel listed a w
 | 0, _, _, _, h => h
 | fuel + 1, _, _, _, h => ⟨h.1, fun i hi => wpOp_mono (fun a' w' h' => any_of_T fuel _ a' w' h'.2) (h.2 i hi)⟩
theorem set_false {l : Array Bool} {j t : Nat} (h : l.getD t false = false) (hj : j ≠ t) : (l.setIfInBounds j true).getD t false = false := by
 simp only [Array.getD_eq_getD_getElem?, Array.getElem?_setIfInBounds_ne hj] at h ⊢
 exact h
theorem set_true {l : Array Bool} {j t : Nat} (h : l.getD t false = true) : (l.setIfInBounds j true).getD t false = true := by
 by_cases hj : j = t
 ·subst hj
  rcases Nat.lt_or_ge j l.size with h' | h'
  ·simp [h']
  ·simp [Array.getElem?_eq_none h'] at h
 ·simp only [Array.getD_eq_getD_getElem?, Array.getElem?_setIfInBounds_ne hj] at h ⊢
  exact h
theorem anyT_first {i : Nat} {oi : Oper} {v : Value} (hi : ops[i]? = some oi) (hsel : ∀ (j : Nat) (o : Oper) cs b, ops[j]? = some o → o.op ≠ .select cs b)
  (hQ : ∀ c a w, Q (.panic c) (a.put oi.dst v) w → Q (.panic c) a w) (hwait : ∀ o, ops[t]? = some o → ∃ e ∈ o.after, Region.binds md e = true ∧ e.on = i) :
  ∀ (fuel : Nat) (listed : Array Bool) (a : Act) (w : World),
   (∀ j oj, ops[j]? = some oj → j ≠ i → listed.getD j true = false → (∀ e ∈ oj.after, Region.binds md e = true → e.on ≠ i) → oi.apart ops oj = true) →
   i ∈ Region.ready md ops listed → YieldsIf P ops S oi v a → listed.getD t false = false → S w →
   anyT P md ops Q S t fuel (listed.setIfInBounds i true) (a.put oi.dst v) w → anyT P md ops Q S t (fuel + 1) listed a w := by
 intro fuel
 induction fuel with
 | zero =>
  intro listed a w _ hr hy hT hS H
  refine ⟨fun h => (by rw [h] at hr; cases hr), fun j hj => ?_⟩
  by_cases hji : j = i
  ·subst hji; exact hy.wpOp hi hS ⟨.inr hS, H⟩
  ·have := ready_mono hj hji
   rw [H.1] at this
   cases this
 | succ fuel ih =>
  intro listed a w hfree hr hy hT hS H
  refine ⟨fun h => (by rw [h] at hr; cases hr), fun j hj => ?_⟩
  by_cases hji : j = i
  ·subst hji; exact hy.wpOp hi hS ⟨.inr hS, H⟩
  ·have h1 := H.2 j (ready_mono hj hji)
   obtain ⟨hjun, oj, hoj, hall⟩ := mem_ready.1 hj
   have hnot : ∀ e ∈ oj.after, Region.binds md e = true → e.on ≠ i := fun e he hb heq => by
    have h1 := hall e he hb
    have h0 := (mem_ready.1 hr).1
    rw [heq] at h1
    rcases Nat.lt_or_ge i listed.size with h' | h'
    ·simp [h'] at h0 h1; rw [h0] at h1; cases h1
    ·simp [Array.getElem?_eq_none h'] at h1
   have hjt : j ≠ t := fun e => by
    subst e
    obtain ⟨e, he, hb, heq⟩ := hwait oj hoj
    exact hnot e he hb heq
   have hit : i ≠ t := fun e => by
    subst e
    obtain ⟨e, he, hb, heq⟩ := hwait oi hi
    have h3 := (mem_ready.1 hr).2
    obtain ⟨o2, ho2, hall2⟩ := h3
    rw [hi] at ho2
    injection ho2 with ho2
    subst ho2
    have h4 := hall2 e he hb
    rw [heq] at h4
    rw [show listed.getD i false = listed.getD i false from rfl] at h4
    rw [hT] at h4
    cases h4
   have h2 := wpOp_putIf hoj (hfree j oj hoj hji hjun hnot) (fun cs b => hsel i oi cs b hi) (fun cs b => hsel j oj cs b hoj) hQ hy h1
   have hfree' : ∀ k ok, ops[k]? = some ok → k ≠ i → (listed.setIfInBounds j true).getD k true = false →
     (∀ e ∈ ok.after, Region.binds md e = true → e.on ≠ i) → oi.apart ops ok = true := fun k ok hk hki hun hno => by
    refine hfree k ok hk hki ?_ hno
    by_cases hjk : j = k
    ·subst hjk; exact hjun
    ·rw [getD_set_ne true hjk] at hun; exact hun
   have hT2 := set_false hT hjt
   refine wpOp_mono (fun a' w' h3 => ?_) h2
   have hS3 : S w' := by
    rcases h3.2.1 with h4 | h4
    ·exfalso
     rw [Array.setIfInBounds_comm _ _ (Ne.symm hji)] at h4
     rw [set_false hT2 hit] at h4
     cases h4
    ·exact h4
   refine ⟨.inr hS3, ih (listed.setIfInBounds j true) a' w' hfree' (ready_mono hr (Ne.symm hji)) h3.1 hT2 hS3 ?_⟩
   rw [Array.setIfInBounds_comm _ _ hji]
   exact h3.2.2
theorem anyT_free {i : Nat} {oi : Oper} {v : Value} (hit : i ≠ t) (hi : ops[i]? = some oi) (hsel : ∀ (j : Nat) (o : Oper) cs b, ops[j]? = some o → o.op ≠ .select cs b)
  (hQ : ∀ c a w, Q (.panic c) (a.put oi.dst v) w → Q (.panic c) a w) :
  ∀ (fuel : Nat) (listed : Array Bool) (a : Act) (w : World),
   (∀ j oj, ops[j]? = some oj → j ≠ i → listed.getD j true = false → (∀ e ∈ oj.after, Region.binds md e = true → e.on ≠ i) → oi.apart ops oj = true) →
   i ∈ Region.ready md ops listed → YieldsIf P ops (fun _ => True) oi v a → (listed.getD t false = true ∨ S w) →
   anyT P md ops Q S t fuel (listed.setIfInBounds i true) (a.put oi.dst v) w → anyT P md ops Q S t (fuel + 1) listed a w := by
 intro fuel
 induction fuel with
 | zero =>
  intro listed a w _ hr hy hS H
  refine ⟨fun h => (by rw [h] at hr; cases hr), fun j hj => ?_⟩
  by_cases hji : j = i
  ·subst hji; exact hy.wpOp hi trivial ⟨hS.imp set_true id, H⟩
  ·have := ready_mono hj hji
   rw [H.1] at this
   cases this
 | succ fuel ih =>
  intro listed a w hfree hr hy hS H
  refine ⟨fun h => (by rw [h] at hr; cases hr), fun j hj => ?_⟩
  by_cases hji : j = i
  ·subst hji; exact hy.wpOp hi trivial ⟨hS.imp set_true id, H⟩
  ·have h1 := H.2 j (ready_mono hj hji)
   obtain ⟨hjun, oj, hoj, hall⟩ := mem_ready.1 hj
   have hnot : ∀ e ∈ oj.after, Region.binds md e = true → e.on ≠ i := fun e he hb heq => by
    have h1 := hall e he hb
    have h0 := (mem_ready.1 hr).1
    rw [heq] at h1
    rcases Nat.lt_or_ge i listed.size with h' | h'
    ·simp [h'] at h0 h1; rw [h0] at h1; cases h1
    ·simp [Array.getElem?_eq_none h'] at h1
   have h2 := wpOp_putIf hoj (hfree j oj hoj hji hjun hnot) (fun cs b => hsel i oi cs b hi) (fun cs b => hsel j oj cs b hoj) hQ hy h1
   have hfree' : ∀ k ok, ops[k]? = some ok → k ≠ i → (listed.setIfInBounds j true).getD k true = false →
     (∀ e ∈ ok.after, Region.binds md e = true → e.on ≠ i) → oi.apart ops ok = true := fun k ok hk hki hun hno => by
    refine hfree k ok hk hki ?_ hno
    by_cases hjk : j = k
    ·subst hjk; exact hjun
    ·rw [getD_set_ne true hjk] at hun; exact hun
   refine wpOp_mono (fun a' w' h3 => ?_) h2
   have hS3 : (listed.setIfInBounds j true).getD t false = true ∨ S w' := by
    rcases h3.2.1 with h4 | h4
    ·left
     cases h5 : (listed.setIfInBounds j true).getD t false
     ·rw [Array.setIfInBounds_comm _ _ (Ne.symm hji), set_false h5 hit] at h4
      cases h4
     ·rfl
    ·exact .inr h4
   refine ⟨hS3, ih (listed.setIfInBounds j true) a' w' hfree' (ready_mono hr (Ne.symm hji)) h3.1 hS3 ?_⟩
   rw [Array.setIfInBounds_comm _ _ hji]
   exact h3.2.2
def waitsFor (md : Region.Mode) (ops : Array Oper) (t i : Nat) : Bool := match ops[t]? with
 | some o => o.after.any fun e => Region.binds md e && e.on == i
 | none => true
theorem anyT_take {i : Nat} {oi : Oper} {v : Value} {fuel : Nat} {listed : Array Bool} {a : Act} {w : World} (hi : ops[i]? = some oi)
  (hs : Region.noSelect ops = true) (hf : Region.free md ops listed i = true) (hr : (Region.ready md ops listed).contains i = true) (hwt : waitsFor md ops t i = true) (hT : listed.getD t false = false)
  (hQ : ∀ c a w, Q (.panic c) (a.put oi.dst v) w → Q (.panic c) a w) (hy : YieldsIf P ops S oi v a) (hS : S w)
  (h : anyT P md ops Q S t fuel (listed.setIfInBounds i true) (a.put oi.dst v) w) : anyT P md ops Q S t (fuel + 1) listed a w :=
 anyT_first hi (Region.noSelect_spec hs) hQ (fun o ho => by
  unfold waitsFor at hwt
  rw [ho] at hwt
  dsimp only at hwt
  obtain ⟨j, hj, he⟩ := Array.any_eq_true.1 hwt
  rw [Bool.and_eq_true, beq_iff_eq] at he
  exact ⟨_, Array.getElem_mem hj, he.1, he.2⟩) fuel listed a w (Region.free_spec hi hf) (by simpa using hr) hy hT hS h
theorem anyT_take0 {i : Nat} {oi : Oper} {v : Value} {fuel : Nat} {listed : Array Bool} {a : Act} {w : World} (hi : ops[i]? = some oi)
  (hs : Region.noSelect ops = true) (hf : Region.free md ops listed i = true) (hr : (Region.ready md ops listed).contains i = true) (hit : i ≠ t)
  (hQ : ∀ c a w, Q (.panic c) (a.put oi.dst v) w → Q (.panic c) a w) (hy : YieldsIf P ops (fun _ => True) oi v a) (hS : S w)
  (h : anyT P md ops Q S t fuel (listed.setIfInBounds i true) (a.put oi.dst v) w) : anyT P md ops Q S t (fuel + 1) listed a w :=
 anyT_free hit hi (Region.noSelect_spec hs) hQ fuel listed a w (Region.free_spec hi hf) (by simpa using hr) hy (.inr hS) h
def AllReadyT (P : Program) (md : Region.Mode) (ops : Array Oper) (Q : Exit → Act → World → Prop) (S : World → Prop) (t : Nat) (fuel : Nat) (listed : Array Bool) (a : Act) (w : World) (rs : List Nat) : Prop :=
 ∀ i ∈ rs, wpOp P ops Q i (fun a' w' => ((listed.setIfInBounds i true).getD t false = true ∨ S w') ∧ anyT P md ops Q S t fuel (listed.setIfInBounds i true) a' w') a w
theorem AllReadyT.nil {fuel : Nat} {listed : Array Bool} {a : Act} {w : World} : AllReadyT P md ops Q S t fuel listed a w [] := fun _ h => by cases h
theorem AllReadyT.cons {fuel : Nat} {listed : Array Bool} {a : Act} {w : World} {i : Nat} {o : Oper} {rs : List Nat} (ho : ops[i]? = some o)
  (h : ∀ K' : Act → World → Prop, Shut (∀ a w, ((listed.setIfInBounds i true).getD t false = true ∨ S w) → (((listed.setIfInBounds i true).getD t false = true ∨ S w) → anyT P md ops Q S t fuel (listed.setIfInBounds i true) a w) → K' a w) → if Region.wanted o (yielded ops a.tmps) = true then Oper.wp P o a w K' Q else K' (a.put o.dst undef) w)
  (hs : AllReadyT P md ops Q S t fuel listed a w rs) : AllReadyT P md ops Q S t fuel listed a w (i :: rs) := fun j hj => by
 rcases List.mem_cons.1 hj with rfl | hj
 ·exact wpOp_step ho (fun K' hK => h K' (fun a w hS hW => hK a w ⟨hS, hW hS⟩))
 ·exact hs j hj
theorem anyT_ready {rs : List Nat} {fuel : Nat} {listed : Array Bool} {a : Act} {w : World} (hr : Region.ready md ops listed = rs) (hne : rs ≠ [])
  (h : AllReadyT P md ops Q S t fuel listed a w rs) : anyT P md ops Q S t (fuel + 1) listed a w :=
 ⟨fun h0 => absurd (hr ▸ h0) hne, hr ▸ h⟩
theorem anyT_done {listed : Array Bool} {a : Act} {w : World} (hr : Region.ready md ops listed = []) (h : Q .normal a w) :
  ∀ fuel, anyT P md ops Q S t fuel listed a w
 | 0 => ⟨hr, h⟩
 | _ + 1 => ⟨fun _ => h, by rw [hr]; simp⟩
theorem region_T {id : Nat} {a : Act} {w : World} (t : Nat) (hm : P.follows .mixedOrders = true) (hS : S w.drew)
  (h : S w.drew → anyT P .any ops Q S t ops.size (Array.replicate ops.size false) a w.drew) : (Code.region id ops true).wp P Q a w :=
 wp_region_any hm (any_of_T _ _ _ _ (h hS))
end
structure One (w wr : World) (pl : List Pw) (k : Nat) (F : Nat → Value) (G : Nat → List Wy) : Prop where
 gth : Gth pl G
 len : ∀ i, (G i).length ≤ k
 fam : Fam wr (w.heap.size + 2) F G
 ok : ∀ i, i < 258 → WOk wr (G i)
 mp : Mp wr (w.heap.size + 1) k F
 nil : ∀ i, i < 258 → G i = [] → F i = .slice none 0 0
 own : wr.ownsRow w.heap.size 139 5 (.slice (some ⟨w.heap.size, 0, none⟩) 1 1) 1 [.slice none 0 0, .slice none 0 0, .pointer none, .pointer none, .int .i64 (endsP pl : Int)]
 below : Below w.heap.size w wr
 size : w.heap.size + 2 ≤ wr.heap.size
theorem Mp.mono {w : World} {mb n m : Nat} {F : Nat → Value} (h : Mp w mb n F) (hn : n ≤ m) : Mp w mb m F := let ⟨D, h, hc⟩ := h; ⟨D, h.mono hn, hc⟩
theorem One.start (w : World) : One w ((w.alloc (.cells #[.slice none 0 0, .slice none 0 0, .pointer none, .pointer none, .int .i64 0] 139)).alloc (.map #[] 0)) [] 0 (fun _ => .slice none 0 0) (fun _ => []) where
 gth := Gth.start
 len := fun _ => Nat.le_refl _
 fam := Fam.start _ _
 ok := fun _ _ x hx => by cases hx
 mp := by have := Mp.made (w.alloc (.cells #[.slice none 0 0, .slice none 0 0, .pointer none, .pointer none, .int .i64 0] 139)); simpa using this
 nil := fun _ _ _ => rfl
 own := (World.ownsRow_lit (base := w.heap.size) (e := 139) (size := 5) w #[.slice none 0 0, .slice none 0 0, .pointer none, .pointer none, .int .i64 0] 1 (Nat.le_refl _) (by unfold maxLen; omega) rfl).alloc _
 below := ((Below.refl _ w).alloc (Nat.le_refl _) _).alloc (by simp) _
 size := by simp
section
variable {w wr : World} {pl : List Pw} {k : Nat} {F : Nat → Value} {G : Nat → List Wy}
theorem One.alloc (h : One w wr pl k F G) (o : Obj) : One w (wr.alloc o) pl k F G where
 gth := h.gth
 len := h.len
 fam := h.fam.alloc o
 ok := fun i hi => (h.ok i hi).alloc o
 mp := h.mp.alloc o
 nil := h.nil
 own := h.own.alloc o
 below := h.below.alloc h.below.size o
 size := by have := h.size; simp; omega
theorem One.belowW {w2 : World} (h : One w wr pl k F G) (hb : Below wr.heap.size wr w2) : One w w2 pl k F G where
 gth := h.gth
 len := h.len
 fam := h.fam.below hb
 ok := fun i hi => (h.ok i hi).below hb
 mp := h.mp.below hb (by have := h.size; omega)
 nil := h.nil
 own := own_below h.own hb
 below := h.below.trans (hb.mono h.below.size)
 size := by have := h.size; have := hb.size; omega
theorem One.ends (h : One w wr pl k F G) {x : Wy} (hx : x.2.2 = []) : One w (wr.setCell ⟨w.heap.size, 4, none⟩ (.int .i64 ((x.1 : Int) + 1))) (pl ++ [plW x]) (k + 1) F G := by
 obtain ⟨h1, h2⟩ := h.own.stored 4 (.int .i64 ((x.1 : Int) + 1))
 have hp : (plW x).2 = [] := hx
 refine ⟨h.gth.ends hx, fun i => Nat.le_succ_of_le (h.len i), h.fam.kept h2 (fun k hk => by simp at hk; omega), fun i hi => (h.ok i hi).grown (u := .slice (some ⟨w.heap.size, 0, none⟩) 1 1) h.own (by decide) h2, (h.mp.kept h2 (by simp)).mono (Nat.le_succ _), h.nil, ?_, h.below.grown h2 h.below.size (fun k hk => by simp at hk; omega), by have := h.size; have := h2.size; omega⟩
 rw [endsP_snoc, hp]
 exact h1
theorem One.edge (h : One w wr pl k F G) {x : Wy} {p : Pc} {r : List Pc} (hx : x.2.2 = p :: r) {y : Wy} (hy : plW y = (x.1, r)) (i : Nat) (hi : (i = 256 ∧ p.1 = 1) ∨ (i = 257 ∧ p.1 = 2)) {w2 : World} {v' : Value}
  (hw : WOne wr y) (ho : w2.ownsRow (w.heap.size + 2) 192 2 v' ((G i).length + 1) (flatW (G i) ++ flatW [y])) (hg : wr.grownBy w2 (F i).ownBlock) (alt : v'.ownBlock = (F i).ownBlock ∨ v'.ownBlock = some wr.heap.size) :
  One w w2 (pl ++ [plW x]) (k + 1) (upd F i v') (upd G i (G i ++ [y])) := by
 have hi2 : i < 258 := by omega
 have hp : (plW x).2 = p :: r := hx
 have hlo := own_lt (h.fam.own i hi2)
 refine ⟨h.gth.edge hx hy i hi, fun j => ?_, h.fam.grow hi2 hg ho alt, fun j hj => ?_, ?_, fun j hj hG => ?_, ?_, h.below.grown hg h.below.size (fun q hq => by have := hlo q hq; omega), by have := h.size; have := hg.size; omega⟩
 ·by_cases e : j = i
  ·subst e
   rw [upd_same, List.length_append]
   have := h.len j
   simp
   omega
  ·rw [upd_other e]
   have := h.len j
   omega
 ·by_cases e : j = i
  ·subst e
   rw [upd_same]
   exact WOk.grown (WOk.append (h.ok j hj) (WOk.one hw)) (h.fam.own j hj) (by decide) hg
  ·rw [upd_other e]
   exact WOk.grown (h.ok j hj) (h.fam.own i hi2) (by decide) hg
 ·obtain ⟨D, ho2, hm, ha⟩ := (h.mp.kept hg (fun e => by have := hlo _ e.symm; omega)).mono (Nat.le_succ k)
  exact ⟨D, ho2, hm, fun c hc => by rw [upd_other (by omega)]; exact ha c hc⟩
 ·by_cases e : j = i
  ·subst e
   rw [upd_same] at hG
   exact absurd hG (by simp)
  ·rw [upd_other e] at hG ⊢
   exact h.nil j hj hG
 ·rw [endsP_snoc, hp]
  exact h.own.kept hg (.inr (fun e => by have h3 : w.heap.size + 2 ≤ w.heap.size := hlo _ e.symm; omega))
end
theorem WOne.keptM {w w' : World} {x : Wy} (h : WOne w x) {mb n : Nat} {F : Nat → Value} (hm : Mp w mb n F) (hg : w.grownBy w' (some mb)) : WOne w' x := by
 have key : ∀ b, (∃ cs, w.heap[b]? = some (.cells cs 109)) → some b ≠ some mb := fun b ⟨cs, hc⟩ e => by
  injection e with e
  subst e
  obtain ⟨D, ⟨es, clock, hh, _⟩, _⟩ := hm
  rw [hc] at hh
  injection hh with hh
  cases hh
 refine ⟨fun hl => ?_, fun b off e => ?_, h.2.2⟩
 ·obtain ⟨b, off, e, hb, hc⟩ := h.1 hl
  exact ⟨b, off, e, Nat.lt_of_lt_of_le hb hg.size, fun j v hv => (cell_far hg ⟨b, off + j, none⟩ hb (key b (h.2.1 b off e))).trans (hc j v hv)⟩
 ·obtain ⟨cs, hc⟩ := h.2.1 b off e
  exact ⟨cs, (hg.block b (Array.getElem?_eq_some_iff.1 hc).1 (key b ⟨cs, hc⟩)).trans hc⟩
section
variable {w wr : World} {pl : List Pw} {k : Nat} {F : Nat → Value} {G : Nat → List Wy}
theorem One.text (h : One w wr pl k F G) {x : Wy} {p : Pc} {r : List Pc} (hx : x.2.2 = p :: r) (h1 : p.1 = 0) {c : Nat} (hc : c < 256) (hb : bt p.2 0 = c) {w2 w3 : World} {v' : Value}
  (hw : WOne wr x) (ho : w2.ownsRow (w.heap.size + 2) 192 2 v' ((G c).length + 1) (flatW (G c) ++ flatW [x])) (hg : wr.grownBy w2 (F c).ownBlock) (alt : v'.ownBlock = (F c).ownBlock ∨ v'.ownBlock = some wr.heap.size)
  (hm : Mp w3 (w.heap.size + 1) (k + 1) (upd F c v')) (hg3 : w2.grownBy w3 (some (w.heap.size + 1))) :
  One w w3 (pl ++ [plW x]) (k + 1) (upd F c v') (upd G c (G c ++ [x])) := by
 have hi2 : c < 258 := by omega
 have hp : (plW x).2 = p :: r := hx
 have hlo := own_lt (h.fam.own c hi2)
 have hmp2 : Mp w2 (w.heap.size + 1) k F := h.mp.kept hg (fun e => by have := hlo _ e.symm; omega)
 have hb2 : Below w.heap.size w w2 := h.below.grown hg h.below.size (fun q hq => by have := hlo q hq; omega)
 refine ⟨h.gth.text hx (by omega) (by omega) hc hb, fun j => ?_, (h.fam.grow hi2 hg ho alt).kept hg3 (fun q hq => by injection hq with hq; omega), fun j hj => ?_, hm, fun j hj hG => ?_, ?_, hb2.grown hg3 hb2.size (fun q hq => by injection hq with hq; omega), by have := h.size; have := hg.size; have := hg3.size; omega⟩
 ·by_cases e : j = c
  ·subst e
   rw [upd_same, List.length_append]
   have := h.len j
   simp
   omega
  ·rw [upd_other e]
   have := h.len j
   omega
 ·by_cases e : j = c
  ·subst e
   rw [upd_same]
   exact fun y hy => ((WOk.grown (WOk.append (h.ok j hj) (WOk.one hw)) (h.fam.own j hj) (by decide) hg) y hy).keptM hmp2 hg3
  ·rw [upd_other e]
   exact fun y hy => ((WOk.grown (h.ok j hj) (h.fam.own c hi2) (by decide) hg) y hy).keptM hmp2 hg3
 ·by_cases e : j = c
  ·subst e
   rw [upd_same] at hG
   exact absurd hG (by simp)
  ·rw [upd_other e] at hG ⊢
   exact h.nil j hj hG
 ·rw [endsP_snoc, hp]
  exact (h.own.kept hg (.inr (fun e => by have h3 : w.heap.size + 2 ≤ w.heap.size := hlo _ e.symm; omega))).kept hg3 (.inr (fun e => by
   have e2 : (some w.heap.size : Option Nat) = some (w.heap.size + 1) := e
   injection e2 with e2
   omega))
end
structure Two (w wr : World) (F : Nat → Value) (G : Nat → List Wy) (S : Nat → Prop) (tv kv pv rv : Value) (ends : Nat) (tx : List ByteArray) (ts : List (ByteArray × Tr)) (ps : List Value) (PT RT : Tr) : Prop where
 fam : Fam wr (w.heap.size + 2) F G
 ok : ∀ i, i < 258 → WOk wr (G i)
 mp : ∃ n, Mp wr (w.heap.size + 1) n F
 nil : ∀ i, i < 258 → G i = [] → F i = .slice none 0 0
 own : wr.ownsRow w.heap.size 139 5 (.slice (some ⟨w.heap.size, 0, none⟩) 1 1) 1 [tv, kv, pv, rv, .int .i64 (ends : Int)]
 texts : wr.ownsRow (w.heap.size + 2) 9 1 tv tx.length (tx.map .string)
 kids : wr.ownsRow (w.heap.size + 2) 136 1 kv ps.length ps
 kl : KL S wr ts ps
 param : (At S PT).1 wr pv
 rest : (At S RT).1 wr rv
 ext : ∀ b, S b → w.heap.size + 2 ≤ b ∧ b < wr.heap.size
 offT : ∀ b, tv.ownBlock = some b → ¬ S b
 offK : ∀ b, kv.ownBlock = some b → ¬ S b
 below : Below w.heap.size w wr
 size : w.heap.size + 2 ≤ wr.heap.size
theorem Two.start {w wr : World} {pl : List Pw} {k : Nat} {F : Nat → Value} {G : Nat → List Wy} (h : One w wr pl k F G) :
  Two w wr F G (fun _ => False) (.slice none 0 0) (.slice none 0 0) (.pointer none) (.pointer none) (endsP pl) [] [] [] .none .none where
 fam := h.fam
 ok := h.ok
 mp := ⟨_, h.mp⟩
 nil := h.nil
 own := h.own
 texts := World.ownsRow_nil _ _ _ _
 kids := World.ownsRow_nil _ _ _ _
 kl := trivial
 param := rfl
 rest := rfl
 ext := fun _ h => h.elim
 offT := fun _ _ h => h
 offK := fun _ _ h => h
 below := h.below
 size := h.size
section
variable {w wr w2 : World} {F : Nat → Value} {G : Nat → List Wy} {S : Nat → Prop} {tv kv pv rv : Value} {ends : Nat} {tx : List ByteArray} {ts : List (ByteArray × Tr)} {ps : List Value} {PT RT : Tr}
theorem Two.belowW (h : Two w wr F G S tv kv pv rv ends tx ts ps PT RT) (hb : Below wr.heap.size wr w2) : Two w w2 F G S tv kv pv rv ends tx ts ps PT RT where
 fam := h.fam.below hb
 ok := fun i hi => (h.ok i hi).below hb
 mp := let ⟨n, hm⟩ := h.mp; ⟨n, hm.below hb (by have := h.size; omega)⟩
 nil := h.nil
 own := own_below h.own hb
 texts := own_below h.texts hb
 kids := own_below h.kids hb
 kl := KL.hold (Hold.of_below hb) _ _ h.kl
 param := (At.hold (Hold.of_below hb) PT).1 _ h.param
 rest := (At.hold (Hold.of_below hb) RT).1 _ h.rest
 ext := fun b hb2 => ⟨(h.ext b hb2).1, Nat.lt_of_lt_of_le (h.ext b hb2).2 hb.size⟩
 offT := h.offT
 offK := h.offK
 below := h.below.trans (hb.mono h.below.size)
 size := Nat.le_trans h.size hb.size
theorem Two.child (h : Two w wr F G S tv kv pv rv ends tx ts ps PT RT) {T : Tr} {v : Value} (hb : Below wr.heap.size wr w2) (hv : (At (fun b => wr.heap.size ≤ b) T).1 w2 v) :
  Two w w2 F G (fun b => S b ∨ (wr.heap.size ≤ b ∧ b < w2.heap.size)) tv kv pv rv ends tx ts ps PT RT ∧ (At (fun b => S b ∨ (wr.heap.size ≤ b ∧ b < w2.heap.size)) T).1 w2 v := by
 have h2 := h.belowW hb
 have hs := h.size
 have hbs := hb.size
 refine ⟨⟨h2.fam, h2.ok, h2.mp, h2.nil, h2.own, h2.texts, h2.kids, KL.mono (fun b hb _ => .inl hb) _ _ h2.kl, (At.mono (fun b hb _ => .inl hb) PT).1 _ h2.param, (At.mono (fun b hb _ => .inl hb) RT).1 _ h2.rest, fun b hb => ?_, fun b hb hS => ?_, fun b hb hS => ?_, h2.below, h2.size⟩, (At.mono (fun b hb hl => .inr ⟨hb, hl⟩) T).1 _ hv⟩
 ·rcases hb with hb | hb
  ·exact h2.ext b hb
  ·exact ⟨by omega, hb.2⟩
 ·rcases hS with hS | hS
  ·exact h.offT b hb hS
  ·have := own_blt h.texts b hb; omega
 ·rcases hS with hS | hS
  ·exact h.offK b hb hS
  ·have := own_blt h.kids b hb; omega
theorem store_core (fam : Fam wr (w.heap.size + 2) F G) (ok : ∀ i, i < 258 → WOk wr (G i)) (mp : ∃ n, Mp wr (w.heap.size + 1) n F) (nil : ∀ i, i < 258 → G i = [] → F i = .slice none 0 0)
  (own : wr.ownsRow w.heap.size 139 5 (.slice (some ⟨w.heap.size, 0, none⟩) 1 1) 1 [tv, kv, pv, rv, .int .i64 (ends : Int)]) (ext : ∀ b, S b → w.heap.size + 2 ≤ b ∧ b < wr.heap.size) (below : Below w.heap.size w wr) (size : w.heap.size + 2 ≤ wr.heap.size)
  (j : Nat) (u : Value) {tv' kv' pv' rv' : Value} (hl : [tv, kv, pv, rv, .int .i64 (ends : Int)].set j u = [tv', kv', pv', rv', .int .i64 (ends : Int)])
  {tx' : List ByteArray} {ts' : List (ByteArray × Tr)} {ps' : List Value} {PT' RT' : Tr} (htx : wr.ownsRow (w.heap.size + 2) 9 1 tv' tx'.length (tx'.map .string)) (hps : wr.ownsRow (w.heap.size + 2) 136 1 kv' ps'.length ps')
  (hkl : KL S wr ts' ps') (hP : (At S PT').1 wr pv') (hR : (At S RT').1 wr rv') (hoT : ∀ b, tv'.ownBlock = some b → ¬ S b) (hoK : ∀ b, kv'.ownBlock = some b → ¬ S b) :
  Two w (wr.setCell ⟨w.heap.size, j, none⟩ u) F G S tv' kv' pv' rv' ends tx' ts' ps' PT' RT' := by
 obtain ⟨h1, h2⟩ := own.stored j u
 rw [hl] at h1
 have hh : Hold S wr (wr.setCell ⟨w.heap.size, j, none⟩ u) := Hold.of_grown h2 (fun b e hS => by simp at e; have := (ext b hS).1; omega)
 have hne : ∀ (v : Value) {E sz n xs}, wr.ownsRow (w.heap.size + 2) E sz v n xs → (wr.setCell ⟨w.heap.size, j, none⟩ u).ownsRow (w.heap.size + 2) E sz v n xs := fun v _ _ _ _ ho => ho.kept h2 (by
  cases hv : v.ownBlock with
  | none => exact .inl rfl
  | some q => exact .inr (fun e => by have h3 := own_lt ho q hv; simp at e; omega))
 obtain ⟨n, hm⟩ := mp
 exact ⟨fam.kept h2 (fun q hq => by simp at hq; omega), fun i hi => (ok i hi).grown (u := .slice (some ⟨w.heap.size, 0, none⟩) 1 1) own (by decide) h2, ⟨n, hm.kept h2 (by simp)⟩, nil, h1, hne _ htx, hne _ hps, KL.hold hh _ _ hkl, (At.hold hh PT').1 _ hP, (At.hold hh RT').1 _ hR,
  fun b hb => ⟨(ext b hb).1, Nat.lt_of_lt_of_le (ext b hb).2 h2.size⟩, hoT, hoK, below.grown h2 below.size (fun q hq => by simp at hq; omega), Nat.le_trans size h2.size⟩
theorem Two.setParam (h : Two w wr F G S tv kv pv rv ends tx ts ps PT RT) {T : Tr} {v : Value} (hv : (At S T).1 wr v) : Two w (wr.setCell ⟨w.heap.size, 2, none⟩ v) F G S tv kv v rv ends tx ts ps T RT :=
 store_core h.fam h.ok h.mp h.nil h.own h.ext h.below h.size 2 v rfl h.texts h.kids h.kl hv h.rest h.offT h.offK
theorem Two.setRest (h : Two w wr F G S tv kv pv rv ends tx ts ps PT RT) {T : Tr} {v : Value} (hv : (At S T).1 wr v) : Two w (wr.setCell ⟨w.heap.size, 3, none⟩ v) F G S tv kv pv v ends tx ts ps PT T :=
 store_core h.fam h.ok h.mp h.nil h.own h.ext h.below h.size 3 v rfl h.texts h.kids h.kl h.param hv h.offT h.offK
theorem Two.grown (h : Two w wr F G S tv kv pv rv ends tx ts ps PT RT) {E : TypeId} {u : Value} {n : Nat} {xs : List Value} (ho : wr.ownsRow (w.heap.size + 2) E 1 u n xs) (hE1 : E ≠ 192) (hE2 : E ≠ 109) (hg : wr.grownBy w2 u.ownBlock) (hS : ∀ b, u.ownBlock = some b → ¬ S b) :
  Fam w2 (w.heap.size + 2) F G ∧ (∀ i, i < 258 → WOk w2 (G i)) ∧ (∃ n, Mp w2 (w.heap.size + 1) n F) ∧ w2.ownsRow w.heap.size 139 5 (.slice (some ⟨w.heap.size, 0, none⟩) 1 1) 1 [tv, kv, pv, rv, .int .i64 (ends : Int)] ∧ Hold S wr w2 ∧ Below w.heap.size w w2 := by
 have hlo := own_lt ho
 obtain ⟨m, hm⟩ := h.mp
 exact ⟨h.fam.beside ho hE1 hg, fun i hi => (h.ok i hi).grown ho hE2 hg, ⟨m, hm.kept hg (fun e => by have := hlo _ e.symm; omega)⟩, h.own.kept hg (.inr (fun e => by have h3 : w.heap.size + 2 ≤ w.heap.size := hlo _ e.symm; omega)), Hold.of_grown hg hS, h.below.grown hg h.below.size (fun q hq => by have := hlo q hq; omega)⟩
theorem Two.addText (h : Two w wr F G S tv kv pv rv ends tx ts ps PT RT) {x : ByteArray} {tv' : Value} (hg : wr.grownBy w2 tv.ownBlock) (ho : w2.ownsRow (w.heap.size + 2) 9 1 tv' (tx.length + 1) (tx.map .string ++ [.string x])) (alt : tv'.ownBlock = tv.ownBlock ∨ tv'.ownBlock = some wr.heap.size) :
  Two w (w2.setCell ⟨w.heap.size, 0, none⟩ tv') F G S tv' kv pv rv ends (tx ++ [x]) ts ps PT RT := by
 obtain ⟨a, b, c, d, e, f⟩ := h.grown h.texts (by decide) (by decide) hg h.offT
 have hoT : ∀ b, tv'.ownBlock = some b → ¬ S b := fun b hb hS => by
  rcases alt with e | e
  ·exact h.offT b (by rw [← e]; exact hb) hS
  ·rw [hb] at e
   injection e with e
   have := (h.ext b hS).2
   omega
 have hk : w2.ownsRow (w.heap.size + 2) 136 1 kv ps.length ps := own_other h.kids hg (apart_types h.texts h.kids (by decide))
 exact store_core a b c h.nil d (fun b hb => ⟨(h.ext b hb).1, Nat.lt_of_lt_of_le (h.ext b hb).2 hg.size⟩) f (Nat.le_trans h.size hg.size) 0 tv' rfl (by rw [List.length_append, List.map_append]; exact ho) hk (KL.hold e _ _ h.kl) ((At.hold e PT).1 _ h.param) ((At.hold e RT).1 _ h.rest) hoT h.offK
theorem Two.addKid (h : Two w wr F G S tv kv pv rv ends tx ts ps PT RT) {x : ByteArray × Tr} {p kv' : Value} (hp : (At S x.2).1 wr p) (hg : wr.grownBy w2 kv.ownBlock) (ho : w2.ownsRow (w.heap.size + 2) 136 1 kv' (ps.length + 1) (ps ++ [p])) (alt : kv'.ownBlock = kv.ownBlock ∨ kv'.ownBlock = some wr.heap.size) :
  Two w (w2.setCell ⟨w.heap.size, 1, none⟩ kv') F G S tv kv' pv rv ends tx (ts ++ [x]) (ps ++ [p]) PT RT := by
 obtain ⟨a, b, c, d, e, f⟩ := h.grown h.kids (by decide) (by decide) hg h.offK
 have hoK : ∀ b, kv'.ownBlock = some b → ¬ S b := fun b hb hS => by
  rcases alt with e | e
  ·exact h.offK b (by rw [← e]; exact hb) hS
  ·rw [hb] at e
   injection e with e
   have := (h.ext b hS).2
   omega
 have hk : w2.ownsRow (w.heap.size + 2) 9 1 tv tx.length (tx.map .string) := own_other h.texts hg (apart_types h.kids h.texts (by decide))
 exact store_core a b c h.nil d (fun b hb => ⟨(h.ext b hb).1, Nat.lt_of_lt_of_le (h.ext b hb).2 hg.size⟩) f (Nat.le_trans h.size hg.size) 1 kv' rfl hk (by rw [List.length_append]; exact ho) (KL.snoc _ _ (KL.hold e _ _ h.kl) ((At.hold e x.2).1 _ hp)) ((At.hold e PT).1 _ h.param) ((At.hold e RT).1 _ h.rest) h.offT hoK
theorem Two.done (h : Two w wr F G S tv kv pv rv ends tx ts ps PT RT) (htx : tx = ts.map (·.1)) : (At (fun b => w.heap.size ≤ b) (.node ends (chain ts) PT RT)).1 wr (.pointer (some ⟨w.heap.size, 0, none⟩)) := by
 subst htx
 have hs := h.size
 have mono : ∀ b, S b → b < wr.heap.size → w.heap.size ≤ b := fun b hb _ => by have := (h.ext b hb).1; omega
 obtain ⟨TA, tc, e1⟩ := own_slice h.texts
 obtain ⟨KA, kc, e2⟩ := own_slice h.kids
 have ht := h.texts
 have hk := h.kids
 have hc := fun j (hj : j < 5) => h.own.cellAt j (by omega)
 rw [e1] at ht hc
 rw [e2] at hk hc
 have hl : (ts.map (·.1)).length = (ts.map fun x => Value.string x.1).length := by simp
 have hm : (ts.map (·.1)).map Value.string = ts.map fun x => Value.string x.1 := by simp
 rw [hm] at ht
 refine ⟨w.heap.size, TA, tc, KA, kc, ts.map fun x => .string x.1, ps, pv, rv, rfl, Nat.le_refl _, by omega, by rw [← hl]; exact hc 0 (by omega), hc 1 (by omega), hc 2 (by omega), hc 3 (by omega), hc 4 (by omega), ?_, ?_, ?_, (At.mono mono PT).1 _ h.param, (At.mono mono RT).1 _ h.rest⟩
 ·exact RowF.own ht (fun b hb => by have := own_lt ht b hb; omega)
 ·exact RowF.own hk (fun b hb => by have := own_lt hk b hb; omega)
 ·exact (At.mono mono (chain ts)).2 _ _ (KL.chain _ _ h.kl)
end
theorem edge_ent {k : Int} {ws : List Pw} {x : Pw} (h : x ∈ edgeP k ws) : ∃ y ∈ ws, y.1 = x.1 := by
 unfold edgeP at h
 obtain ⟨y, hy, hx⟩ := List.mem_flatMap.1 h
 unfold edgeOne at hx
 split at hx
 ·cases hx
 ·split at hx
  ·obtain rfl : x = (y.1, _) := by simpa using hx
   exact ⟨y, hy, rfl⟩
  ·cases hx
theorem cut_ent {n : Nat} {ws : List Pw} {x : Pw} (h : x ∈ cutP n ws) : ∃ y ∈ ws, y.1 = x.1 := by
 unfold cutP at h
 obtain ⟨y, hy, rfl⟩ := List.mem_map.1 h
 exact ⟨y, hy, rfl⟩
theorem cut_length (n : Nat) (ws : List Pw) : (cutP n ws).length = ws.length := by unfold cutP; rw [List.length_map]
theorem tot_mem {ws : List Pw} {x : Pw} (h : x ∈ ws) : totS x.2 ≤ meas ws := by
 induction ws with
 | nil => cases h
 | cons y ws ih =>
  rw [meas_cons]
  rcases List.mem_cons.1 h with rfl | h
  ·omega
  ·have := ih h; omega
theorem tot_first {x : Pw} : x.2.length ≤ totS x.2 ∧ (txt x).size ≤ totS x.2 := by
 obtain ⟨i, l⟩ := x
 refine ⟨totP_len l, ?_⟩
 cases l with
 | nil => exact Nat.zero_le _
 | cons p r => rw [totS_cons]; show p.2.size ≤ _; omega
theorem kids_step (B : List Pw → Tr) (ws : List Pw) (c : Nat) : kidsL B ws (c + 1) = kidsL B ws c ++ kidOne B (groupP c ws) := rfl
theorem kid_none {B : List Pw → Tr} {g : List Pw} (h : g = []) : kidOne B g = [] := if_pos h
theorem kid_some {B : List Pw → Tr} {g : List Pw} (h : ¬ g = []) : kidOne B g = [(commonP g, B (cutP (commonP g).size g))] := if_neg h
theorem edgeT_none {B : List Pw → Tr} {g : List Pw} (h : g = []) : edgeT B g = .none := if_pos h
theorem edgeT_some {B : List Pw → Tr} {g : List Pw} (h : ¬ g = []) : edgeT B g = B g := if_neg h
theorem Two.slice {w wr : World} {F : Nat → Value} {G : Nat → List Wy} {S : Nat → Prop} {tv kv pv rv : Value} {ends : Nat} {tx : List ByteArray} {ts : List (ByteArray × Tr)} {ps : List Value} {PT RT : Tr} (h : Two w wr F G S tv kv pv rv ends tx ts ps PT RT) {i : Nat} (hi : i < 258) (hne : ¬ G i = []) :
  ∃ g c, F i = .slice (some ⟨g, 0, none⟩) (G i).length c ∧ Row wr (some ⟨g, 0, none⟩) (flatW (G i)) := by
 have ho := h.fam.own i hi
 obtain ⟨A, c, e⟩ := own_slice ho
 rw [e] at ho
 have hr := own_row ho
 rcases ho.2 with ⟨e2, h2⟩ | ⟨g, cap, cur, e2, _⟩
 ·injection e2 with e2 e3
  exact absurd (List.eq_nil_of_length_eq_zero e3) hne
 ·injection e2 with e2 _ _
  subst e2
  exact ⟨g, c, e, hr⟩
theorem Two.cast {w wr : World} {F : Nat → Value} {G : Nat → List Wy} {S : Nat → Prop} {tv kv pv rv : Value} {ends : Nat} {tx : List ByteArray} {ts : List (ByteArray × Tr)} {ps : List Value} {PT RT PT' RT' : Tr} (h : Two w wr F G S tv kv pv rv ends tx ts ps PT RT) (e1 : PT = PT') (e2 : RT = RT') : Two w wr F G S tv kv pv rv ends tx ts ps PT' RT' := by
 subst e1
 subst e2
 exact h
theorem group_wy {l g : List Wy} {c : Nat} (hg : g.map plW = groupP c (l.map plW)) : ∀ x ∈ g, x.2.2 ≠ [] ∧ x.2.2.length ≤ meas (l.map plW) ∧ (txt (plW x)).size ≤ meas (l.map plW) ∧ (commonP (groupP c (l.map plW))).size ≤ (txt (plW x)).size := fun x hx => by
 have hm : plW x ∈ groupP c (l.map plW) := by rw [← hg]; exact List.mem_map_of_mem hx
 obtain ⟨h1, p, r, h2, _⟩ := group_mem hm
 have h3 := tot_mem h1
 have h4 := @tot_first (plW x)
 exact ⟨fun e => (by rw [show x.2.2 = (plW x).2 from rfl, h2] at e; cases e), Nat.le_trans h4.1 h3, Nat.le_trans h4.2 h3, common_all hm⟩
theorem info_ptr : (Tryz.prog.info? 136).map (fun i => (i.zero, i.size, i.bytes)) = some (some (.pointer none), 1, 8) := by kernel_rfl
theorem edge_le {l g : List Wy} {k : Int} {B : Nat} (hg : g.map plW = edgeP k (l.map plW)) (h : ∀ x ∈ l, x.1 ≤ B) : ∀ x ∈ g, x.1 ≤ B := fun x hx => by
 have hm : plW x ∈ edgeP k (l.map plW) := by rw [← hg]; exact List.mem_map_of_mem hx
 obtain ⟨y, hy, e⟩ := edge_ent hm
 obtain ⟨z, hz, e2⟩ := List.mem_map.1 hy
 have h3 := h z hz
 have h4 : z.1 = x.1 := by rw [← e2] at e; exact e
 omega
theorem cut_le {l g : List Wy} {n c : Nat} {B : Nat} (hg : g.map plW = cutP n (groupP c (l.map plW))) (h : ∀ x ∈ l, x.1 ≤ B) : ∀ x ∈ g, x.1 ≤ B := fun x hx => by
 have hm : plW x ∈ cutP n (groupP c (l.map plW)) := by rw [← hg]; exact List.mem_map_of_mem hx
 obtain ⟨y, hy, e⟩ := cut_ent hm
 obtain ⟨z, hz, e2⟩ := List.mem_map.1 (group_mem hy).1
 have h3 := h z hz
 have h4 : z.1 = x.1 := by rw [← e2] at e; exact e
 omega
end Go.Proofs.YtiohmnhbmmhnhaaGreatDoor
