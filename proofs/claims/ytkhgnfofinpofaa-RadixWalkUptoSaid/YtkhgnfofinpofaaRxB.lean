/-
  What ways have in common, and what is cut off: plain words, and the walks.
-/
import Derived.Test.YtkhgnfofinpofaaRxG
import Derived.Test.YtkhgnfofinpofaaRxU
namespace Go.Proofs.Ytkhgnfofinpofaa
open Go.RowKit Go.Shelf Go.Lib

def plW (x : Wy) : Pw := (x.1, x.2.2)
theorem HasPrefix_any (s p : ByteArray) (w : World) : Calls Try.prog 72 #[.string s, .string p] w fun e w' => e = .returned (.bool (preB s p)) ∧ w = w' :=
  (Try.strings_HasPrefix s p w).mono fun _ _ ⟨he, hw⟩ => ⟨he, hw.symm⟩
/-- A way's first edge, in memory. -/
theorem way_first {w : World} {x : Wy} {p : Pc} {r : List Pc} (hr : Row w x.2.1.1 (flatP x.2.2)) (hx : x.2.2 = p :: r) :
    ∃ b off, x.2.1.1 = some ⟨b, off, none⟩ ∧ b < w.heap.size ∧ w.cell? ⟨b, off, none⟩ = some (.int .i64 p.1) ∧ w.cell? ⟨b, off + 1, none⟩ = some (.string p.2) := by
  obtain ⟨b, off, e, hb, h0, h1⟩ := hr.pc (k := 0) (x := p.1) (y := p.2) (by rw [hx]; rfl)
  exact ⟨b, off, e, hb, by simpa using h0, by simpa using h1⟩
theorem txt_of {x : Wy} {p : Pc} {r : List Pc} (hx : x.2.2 = p :: r) : txt (plW x) = p.2 := by unfold txt plW; rw [hx]

set_option maxRecDepth 20000 in
set_option maxHeartbeats 4000000 in
theorem common_any (A : Option Addr) (c : Nat) (l : List Wy) (w : World) (hr : Row w A (flatW l)) (ho : WOk w l) (hl : l.length ≤ 4194304) (h0 : 0 < l.length) (hne : ∀ x ∈ l, x.2.2 ≠ []) (hsz : ∀ x ∈ l, (txt (plW x)).size ≤ 4194304) :
    Calls Try.prog 89 #[.slice A l.length c] w fun e w' => e = .returned (.string (commonP (l.map plW))) ∧ Below w.heap.size w w' := by
  obtain ⟨x0, hx0⟩ := some_of_lt h0
  obtain ⟨b, off, rfl, hb, hc0, hc1⟩ := hr.way hx0
  obtain ⟨p0, r0, hp0⟩ : ∃ p r, x0.2.2 = p :: r := by
    cases e : x0.2.2 with
    | nil => exact absurd e (hne x0 (List.mem_of_getElem? hx0))
    | cons p r => exact ⟨p, r, rfl⟩
  obtain ⟨b0, off0, e0, hb0, hd0, hd1⟩ := way_first (ho x0 (List.mem_of_getElem? hx0)).1 hp0
  have hcm : commonP (l.map plW) = (l.map plW).foldl (fun t x => comOne (txt x) t) p0.2 := by
    cases l with
    | nil => simp at h0
    | cons y l =>
      simp at hx0
      subst hx0
      show ((y :: l).map plW).foldl _ (txt (plW y)) = _
      rw [txt_of hp0]
  have HC := Lib.hid hcm
  have hp0z : p0.2.size ≤ 4194304 := by have := hsz x0 (List.mem_of_getElem? hx0); rw [txt_of hp0] at this; exact this
  have HNE := Lib.hid hne
  have HOK := Lib.hid ho
  have HR := Lib.hid hr
  rw [e0, hp0] at hc1
  simp only [Nat.zero_mul, Nat.add_zero] at hc0 hc1
  have hl0 : (0 : Int) < (l.length : Int) := by omega
  clear hcm hne ho hx0 e0 hp0
  go_enter Try.func89, Try.ntmps89
  go_wp2
  clear hc0 hc1 hd0 hd1 hb0
  go_loopw [3, 15] (fun t i wr => ∃ (k : Nat) (tx : ByteArray), k ≤ l.length ∧ i = .int .i64 k ∧ t = .string tx ∧ tx.size ≤ 4194304 ∧ Hid (((l.map plW).drop k).foldl (fun t x => comOne (txt x) t) tx = commonP (l.map plW)) ∧ Below w.heap.size w wr) (fun _ i _ => l.length - (RowKit.intOf i).toNat)
  case atStart => exact ⟨0, p0.2, by omega, rfl, rfl, hp0z, Lib.hid HC.out.symm, Below.refl _ _⟩
  case round =>
    clear HC hp0z
    obtain ⟨k, tx, hk, rfl, rfl, htx, HF, hbw⟩ := hrel
    by_cases hlt : k < l.length
    · obtain ⟨x, hx⟩ := some_of_lt hlt
      have hmem := List.mem_of_getElem? hx
      obtain ⟨bx, offx, e1, hbx, g0, g1⟩ := (HR.out.below hbw).way hx
      injection e1 with e1
      injection e1 with e1 e2
      subst e1
      subst e2
      obtain ⟨p, r, hp⟩ : ∃ p r, x.2.2 = p :: r := by
        cases e : x.2.2 with
        | nil => exact absurd e (HNE.out x hmem)
        | cons p r => exact ⟨p, r, rfl⟩
      obtain ⟨bp, offp, ep, hbp, f0, f1⟩ := way_first ((HOK.out x hmem).1.below hbw) hp
      have hdr := drop_of_some (l := l.map plW) (k := k) (x := plW x) (by rw [List.getElem?_map, hx]; rfl)
      have hf := HF.out
      rw [hdr, List.foldl_cons, txt_of hp] at hf
      have HF2 := Lib.hid hf
      rw [ep, hp] at g1
      have hb1 := hbw.alloc hbw.size (.cells #[.int .i64 (x.1 : Int), .slice (some ⟨bp, offp, none⟩) (p :: r).length x.2.1.2] 127)
      have HH := Lib.hid (fun (t : ByteArray) w => HasPrefix_any p.2 t w)
      clear hdr hf HF hmem hx ep hp
      go_wp2
      go_loop [3] (fun v => ∃ t2 : ByteArray, v = .string t2 ∧ t2.size ≤ 4194304 ∧ Hid (comOne p.2 t2 = comOne p.2 tx)) (fun v => match v with | .string t => t.size | _ => 0)
      case atStart => exact ⟨tx, rfl, htx, Lib.hid rfl⟩
      case round =>
        obtain ⟨t2, rfl, ht2, HT⟩ := hrel
        have HP := Lib.hid (fun w => HH.out t2 w)
        cases hpre : preB p.2 t2
        · obtain ⟨hz, hco⟩ := comOne_no hpre
          have HT2 := Lib.hid (hco.symm.trans HT.out)
          rw [hpre] at HP
          have hz1 := ext_size t2 (a := 0) (b := t2.size - 1) (by omega) (by omega)
          have ht1 : ((t2.size : Int) - 1).toNat = t2.size - 1 := by omega
          have ht0 : (0 : Int) ≤ (t2.size : Int) - 1 := by omega
          have htl : (t2.size : Int) - 1 ≤ (t2.size : Int) := by omega
          clear hpre hco HT
          go_wp2_with fail
          refine (HP.out _).mono ?_
          rintro e' w1 ⟨rfl, rfl⟩
          go_wp2
          go_round
          case rel => exact ⟨_, rfl, by omega, HT2⟩
          case measure => show (t2.extract 0 (t2.size - 1)).size < t2.size; omega
        · have hco := comOne_yes hpre
          rw [HT.out] at hco
          have HF3 := HF2.out
          rw [hco] at HF3
          have HF4 := Lib.hid HF3
          rw [hpre] at HP
          clear hpre hco HT HF3 HF2
          go_wp2_with fail
          refine (HP.out _).mono ?_
          rintro e' w1 ⟨rfl, rfl⟩
          go_wp2
          go_roundw
          case rel => exact ⟨k + 1, t2, by omega, by go_num, rfl, ht2, HF4, hb1⟩
          case measure => simp [RowKit.intOf]; omega
    · obtain rfl : k = l.length := by omega
      have hf := HF.out
      rw [List.drop_eq_nil_of_le (by rw [List.length_map]; exact Nat.le_refl _)] at hf
      have HF2 := Lib.hid hf
      clear hf HF
      go_wp2
      go_ret
      exact ⟨ret_str HF2.out, hbw⟩
/-- What a call hands back that makes a list of ways. -/
def GivesWays (w : World) (pl : List Pw) (e : Ending) (w' : World) : Prop :=
  ∃ A c, ∃ l : List Wy, e = .returned (.slice A l.length c) ∧ l.map plW = pl ∧ w'.ownsRow w.heap.size 127 2 (.slice A l.length c) l.length (flatW l) ∧ WOk w' l ∧ Below w.heap.size w w'
theorem gives_ways {w w' : World} {pl : List Pw} {l : List Wy} {v : Value} (hl : l.map plW = pl) (ho : w'.ownsRow w.heap.size 127 2 v l.length (flatW l)) (hw : WOk w' l) (hb : Below w.heap.size w w') : GivesWays w pl (.returned v) w' := by
  obtain ⟨A, c, rfl⟩ := own_slice ho
  exact ⟨A, c, l, rfl, hl, ho, hw, hb⟩
set_option maxRecDepth 20000 in
set_option maxHeartbeats 8000000 in
theorem cut_any (A : Option Addr) (c : Nat) (l : List Wy) (n : Nat) (w : World) (hr : Row w A (flatW l)) (ho : WOk w l) (hl : l.length ≤ 4194304) (hne : ∀ x ∈ l, x.2.2 ≠ [] ∧ x.2.2.length ≤ 4194304 ∧ n ≤ (txt (plW x)).size ∧ (txt (plW x)).size ≤ 4194304) :
    Calls Try.prog 90 #[.slice A l.length c, .int .i64 (n : Int)] w (GivesWays w (cutP n (l.map plW))) := by
  obtain ⟨i0, hi0, hz0, hz1, hz2⟩ := info_parts info_piece
  obtain ⟨j0, hj0, hy0, hy1, hy2⟩ := info_parts info_way
  have HNE := Lib.hid hne
  have HOK := Lib.hid ho
  have HR := Lib.hid hr
  clear hne ho hr
  go_enter Try.func90, Try.ntmps90
  go_wp2
  go_loopw [5, 12] (fun v i wr => ∃ (k : Nat) (out : List Wy), k ≤ l.length ∧ i = .int .i64 k ∧ out.length ≤ k ∧ Hid (out.map plW = cutP n ((l.take k).map plW)) ∧ wr.ownsRow w.heap.size 127 2 v out.length (flatW out) ∧ Hid (WOk wr out) ∧ Below w.heap.size w wr) (fun _ i _ => l.length - (RowKit.intOf i).toNat)
  case atStart => exact ⟨0, [], by omega, rfl, Nat.le_refl _, Lib.hid rfl, World.ownsRow_nil _ _ _ _, Lib.hid (fun x hx => by cases hx), Below.refl _ _⟩
  case round =>
    obtain ⟨k, out, hk, rfl, hol, HM, hown, HW, hbw⟩ := hrel
    obtain ⟨OA, Oc, rfl⟩ := own_slice hown
    by_cases hlt : k < l.length
    · obtain ⟨x, hx⟩ := some_of_lt hlt
      have hmem := List.mem_of_getElem? hx
      obtain ⟨bx, offx, rfl, hbx, g0, g1⟩ := (HR.out.below hbw).way hx
      obtain ⟨hxn, hxl, hxs, hxz⟩ := HNE.out x hmem
      obtain ⟨p, r, hp⟩ : ∃ p r, x.2.2 = p :: r := by
        cases e : x.2.2 with
        | nil => exact absurd e hxn
        | cons p r => exact ⟨p, r, rfl⟩
      have hw1 := (HOK.out x hmem).below hbw
      obtain ⟨bp, offp, ep, hbp, f0, f1⟩ := way_first hw1.1 hp
      rw [txt_of hp] at hxs hxz
      have hcut := show cutOne n (plW x) = (x.1, if (p.2.extract n p.2.size).size = 0 then r else (0, p.2.extract n p.2.size) :: r) by
        unfold cutOne
        rw [txt_of hp]
        unfold plW
        rw [hp]
        rfl
      have hst := show cutP n ((l.take (k + 1)).map plW) = cutP n ((l.take k).map plW) ++ [cutOne n (plW x)] by
        unfold cutP
        rw [take_snoc hx, List.map_append, List.map_append]
        rfl
      obtain ⟨hw2, hwt, hw3, hw4⟩ := hw1
      rw [ep] at hwt
      rw [ep, hp] at hw2
      rw [hp] at hw3 hxl
      have hrow := hw2.behind
      rw [ep, hp] at g1
      have hb1 := hbw.alloc hbw.size (.cells #[.int .i64 (x.1 : Int), .slice (some ⟨bp, offp, none⟩) (p :: r).length x.2.1.2] 127)
      have hown1 := hown.alloc (.cells #[.int .i64 (x.1 : Int), .slice (some ⟨bp, offp, none⟩) (p :: r).length x.2.1.2] 127)
      rw [List.length_cons] at hw3 hxl
      have hz := ext_size p.2 (a := n) (b := p.2.size) (by omega) (Nat.le_refl _)
      obtain ⟨cp, hcp⟩ : ∃ cp, cp = x.2.1.2 := ⟨_, rfl⟩
      obtain ⟨en, hen⟩ : ∃ en, en = x.1 := ⟨_, rfl⟩
      rw [← hcp] at g1 hb1 hown1 hw3 hw4
      rw [← hen] at g0 hb1 hown1 hcut
      have hnx : (n : Int) ≤ (p.2.size : Int) := by omega
      obtain ⟨lf, hlf⟩ : ∃ lf, p.2.extract n p.2.size = lf := ⟨_, rfl⟩
      rw [hlf] at hcut hz
      rw [List.length_cons] at g1 hb1 hown1
      have HCUT := Lib.hid hcut
      have HST := Lib.hid hst
      have HROW := Lib.hid hrow
      clear hcut hst hx hmem hxn ep hp hcp hen hw2 hrow
      by_cases hc1 : cp = 1
      · subst hc1
        obtain rfl : r = [] := List.eq_nil_of_length_eq_zero (by omega)
        by_cases hlz : lf.size = 0
        · have he : lf.toList.isEmpty = true := by rw [empty_eq]; exact decide_eq_true hlz
          have HONE := Lib.hid (show WOne wr (en, (some ⟨bp, offp, none⟩, 0), []) from ⟨fun h => absurd h (Nat.lt_irrefl 0), hwt, Nat.le_refl _, Nat.zero_le _⟩)
          go_wp2_with (at_builtin; refine wpList_append_any _ rfl (.tmp 33) (.tmp 38) 124 rfl w.heap.size 127 j0 (.agg #[.int .i64 0, .slice none 0 0]) 2 32 Try.underlying124 hj0 hy0 hy1 hy2 rfl (by decide) _ _ _ rfl (hown1.alloc _) _ (some ⟨wr.heap.size + 1, 0, none⟩) 1 1 [.int .i64 (en : Int), .slice (some ⟨bp, offp, none⟩) 0 0] rfl (reads_of_row (row_newc (wr.alloc (.cells #[.int .i64 (en : Int), .slice (some ⟨bp, offp, none⟩) 1 1] 127)) _ 127 (by simp)) rfl (by decide)) ?a1 ?a2 ?a3 ?a4 ?a5)
          case a1 => first | exact ⟨rfl, rfl⟩ | (intro u hu; simp at hu; rcases hu with rfl | rfl <;> rfl)
          case a2 => unfold maxLen; omega
          case a3 => omega
          case a4 => (try simp); have := hb1.size; (try simp at this); omega
          case a5 =>
            intro va wa howna hga _
            have hba := (hb1.alloc (hb1.size) _).grown hga (by (try simp); have := hb1.size; (try simp at this); omega) (own_lt hown1)
            have hoa : wa.ownsRow w.heap.size 127 2 va (out ++ [((en, (some ⟨bp, offp, none⟩, 0), []) : Wy)]).length (flatW (out ++ [((en, (some ⟨bp, offp, none⟩, 0), []) : Wy)])) := by rw [flatW_append, List.length_append]; exact howna
            have HM2 := Lib.hid (show (out ++ [((en, (some ⟨bp, offp, none⟩, 0), []) : Wy)]).map plW = cutP n ((l.take (k + 1)).map plW) by rw [List.map_append, HM.out, HST.out, HCUT.out, if_pos hlz]; rfl)
            have HO := Lib.hid hoa
            have HB := Lib.hid hba
            have HW2 := Lib.hid ((((WOk.append HW.out (WOk.one HONE.out)).alloc _).alloc _).grown (hown1.alloc _) (by decide) hga)
            clear hoa hba howna hga
            go_wp2
            go_roundw
            case rel => exact ⟨k + 1, _, by omega, by go_num, by rw [List.length_append]; simp; omega, HM2, HO.out, HW2, HB.out⟩
            case measure => simp [RowKit.intOf]; omega
        · have he : lf.toList.isEmpty = false := by rw [empty_eq]; exact decide_eq_false hlz
          have hrow2 : Row ((wr.alloc (.cells #[.int .i64 (en : Int), .slice (some ⟨bp, offp, none⟩) 1 1] 127)).alloc (.cells #[.int .i64 0, .string lf] 99)) (some ⟨bp, offp, none⟩) (flatP []) := ((show WOne wr (en, (some ⟨bp, offp, none⟩, 0), []) from ⟨fun h => absurd h (Nat.lt_irrefl 0), hwt, Nat.le_refl _, Nat.zero_le _⟩).1.alloc _).alloc _
          have hlit := World.ownsRow_lit (base := w.heap.size) (e := 99) (size := 2) (wr.alloc (.cells #[.int .i64 (en : Int), .slice (some ⟨bp, offp, none⟩) 1 1] 127)) #[.int .i64 0, .string lf] 1 hb1.size (by unfold maxLen; omega) rfl
          have hlit2 : ((wr.alloc (.cells #[.int .i64 (en : Int), .slice (some ⟨bp, offp, none⟩) 1 1] 127)).alloc (.cells #[.int .i64 0, .string lf] 99)).ownsRow w.heap.size 99 2 (.slice (some ⟨wr.heap.size + 1, 0, none⟩) 1 1) 1 [.int .i64 0, .string lf] := by simpa using hlit
          clear hlit
          go_wp2_with (at_builtin; refine wpList_append_any _ rfl (.tmp 30) (.tmp 31) 80 rfl w.heap.size 99 i0 (.agg #[.int .i64 0, .string ⟨#[]⟩]) 2 24 Try.underlying80 hi0 hz0 hz1 hz2 rfl (by decide) _ _ _ rfl hlit2 _ (some ⟨bp, offp, none⟩) 0 (0) (flatP []) rfl (reads_of_row hrow2 (flatP_length []) (by decide)) ?b1 ?b2 ?b3 ?b4 ?b5)
          case b1 => exact flatP_oneCell []
          case b2 => unfold maxLen; omega
          case b3 => omega
          case b4 => (try simp); have := hb1.size; (try simp at this); omega
          case b5 =>
            intro v2 w2 hown2 hg2 _
            have hown2' : w2.ownsRow w.heap.size 99 2 v2 (((0, lf) :: [] : List Pc)).length (flatP ((0, lf) :: [])) := by first | exact hown2 | (rw [List.length_cons, Nat.add_comm]; exact hown2)
            obtain ⟨A2, c2, rfl⟩ := own_slice hown2'
            have HONE2 := Lib.hid (WOne.own (k := en) hown2')
            have hbl : Below wr.heap.size wr w2 := (((Below.refl _ _).alloc (Nat.le_refl _) _).alloc (by simp) _).grown hg2 (by simp; omega) (fun q hq => by simp [Value.ownBlock] at hq; omega)
            have HW3 := Lib.hid (HW.out.below hbl)
            have hown3 := own_below hown hbl
            have hb3 := hbw.trans (hbl.mono hbw.size)
            have hbx : w2.cell? ⟨wr.heap.size, 0, none⟩ = some (.int .i64 (en : Int)) := (cell_far hg2 ⟨wr.heap.size, 0, none⟩ (by simp; omega) (by simp [Value.ownBlock])).trans (by simp)
            clear hown2 hown2' hg2 hbl hown hown1 hb1 hlit2 hrow2 HW
            go_wp2_with (at_builtin; refine wpList_append_any _ rfl (.tmp 33) (.tmp 38) 124 rfl w.heap.size 127 j0 (.agg #[.int .i64 0, .slice none 0 0]) 2 32 Try.underlying124 hj0 hy0 hy1 hy2 rfl (by decide) _ _ _ rfl (hown3.alloc _) _ (some ⟨w2.heap.size, 0, none⟩) 1 1 [.int .i64 (en : Int), .slice A2 (((0, lf) :: [] : List Pc)).length c2] rfl (reads_of_row (row_newc w2 _ 127 (by simp)) rfl (by decide)) ?d1 ?d2 ?d3 ?d4 ?d5)
            case d1 => first | exact ⟨rfl, rfl⟩ | (intro u hu; simp at hu; rcases hu with rfl | rfl <;> rfl)
            case d2 => unfold maxLen; omega
            case d3 => omega
            case d4 => (try simp); have := hb3.size; (try simp at this); omega
            case d5 =>
              intro vd wd hownd hgd _
              have hbd := (hb3.alloc (hb3.size) _).grown hgd (by (try simp); have := hb3.size; (try simp at this); omega) (own_lt hown3)
              have hod : wd.ownsRow w.heap.size 127 2 vd (out ++ [((en, (A2, c2), ((0, lf) :: [] : List Pc)) : Wy)]).length (flatW (out ++ [((en, (A2, c2), ((0, lf) :: [] : List Pc)) : Wy)])) := by rw [flatW_append, List.length_append]; exact hownd
              have HM2 := Lib.hid (show (out ++ [((en, (A2, c2), ((0, lf) :: [] : List Pc)) : Wy)]).map plW = cutP n ((l.take (k + 1)).map plW) by rw [List.map_append, HM.out, HST.out, HCUT.out, if_neg hlz]; rfl)
              have HO := Lib.hid hod
              have HB := Lib.hid hbd
              have HW2 := Lib.hid (((WOk.append HW3.out (WOk.one HONE2.out)).alloc _).grown (hown3.alloc _) (by decide) hgd)
              clear hod hbd hownd hgd
              go_wp2
              go_roundw
              case rel => exact ⟨k + 1, _, by omega, by go_num, by rw [List.length_append]; simp; omega, HM2, HO.out, HW2, HB.out⟩
              case measure => simp [RowKit.intOf]; omega
      · have hc2 : ¬ cp ≤ 1 := by omega
        by_cases hlz : lf.size = 0
        · have he : lf.toList.isEmpty = true := by rw [empty_eq]; exact decide_eq_true hlz
          have HONE := Lib.hid (show WOne wr (en, (some ⟨bp, offp + 2, none⟩, (cp - 1)), r) from ⟨HROW.out, hwt.shift, by show r.length ≤ cp - 1; omega, by show cp - 1 ≤ maxLen; omega⟩)
          go_wp2_with (at_builtin; refine wpList_append_any _ rfl (.tmp 33) (.tmp 38) 124 rfl w.heap.size 127 j0 (.agg #[.int .i64 0, .slice none 0 0]) 2 32 Try.underlying124 hj0 hy0 hy1 hy2 rfl (by decide) _ _ _ rfl (hown1.alloc _) _ (some ⟨wr.heap.size + 1, 0, none⟩) 1 1 [.int .i64 (en : Int), .slice (some ⟨bp, offp + 2, none⟩) r.length (cp - 1)] rfl (reads_of_row (row_newc (wr.alloc (.cells #[.int .i64 (en : Int), .slice (some ⟨bp, offp, none⟩) (r.length + 1) cp] 127)) _ 127 (by simp)) rfl (by decide)) ?a1 ?a2 ?a3 ?a4 ?a5)
          case a1 => first | exact ⟨rfl, rfl⟩ | (intro u hu; simp at hu; rcases hu with rfl | rfl <;> rfl)
          case a2 => unfold maxLen; omega
          case a3 => omega
          case a4 => (try simp); have := hb1.size; (try simp at this); omega
          case a5 =>
            intro va wa howna hga _
            have hba := (hb1.alloc (hb1.size) _).grown hga (by (try simp); have := hb1.size; (try simp at this); omega) (own_lt hown1)
            have hoa : wa.ownsRow w.heap.size 127 2 va (out ++ [((en, (some ⟨bp, offp + 2, none⟩, (cp - 1)), r) : Wy)]).length (flatW (out ++ [((en, (some ⟨bp, offp + 2, none⟩, (cp - 1)), r) : Wy)])) := by rw [flatW_append, List.length_append]; exact howna
            have HM2 := Lib.hid (show (out ++ [((en, (some ⟨bp, offp + 2, none⟩, (cp - 1)), r) : Wy)]).map plW = cutP n ((l.take (k + 1)).map plW) by rw [List.map_append, HM.out, HST.out, HCUT.out, if_pos hlz]; rfl)
            have HO := Lib.hid hoa
            have HB := Lib.hid hba
            have HW2 := Lib.hid ((((WOk.append HW.out (WOk.one HONE.out)).alloc _).alloc _).grown (hown1.alloc _) (by decide) hga)
            clear hoa hba howna hga
            go_wp2
            go_roundw
            case rel => exact ⟨k + 1, _, by omega, by go_num, by rw [List.length_append]; simp; omega, HM2, HO.out, HW2, HB.out⟩
            case measure => simp [RowKit.intOf]; omega
        · have he : lf.toList.isEmpty = false := by rw [empty_eq]; exact decide_eq_false hlz
          have hrow2 : Row ((wr.alloc (.cells #[.int .i64 (en : Int), .slice (some ⟨bp, offp, none⟩) (r.length + 1) cp] 127)).alloc (.cells #[.int .i64 0, .string lf] 99)) (some ⟨bp, offp + 2, none⟩) (flatP r) := ((show WOne wr (en, (some ⟨bp, offp + 2, none⟩, (cp - 1)), r) from ⟨HROW.out, hwt.shift, by show r.length ≤ cp - 1; omega, by show cp - 1 ≤ maxLen; omega⟩).1.alloc _).alloc _
          have hlit := World.ownsRow_lit (base := w.heap.size) (e := 99) (size := 2) (wr.alloc (.cells #[.int .i64 (en : Int), .slice (some ⟨bp, offp, none⟩) (r.length + 1) cp] 127)) #[.int .i64 0, .string lf] 1 hb1.size (by unfold maxLen; omega) rfl
          have hlit2 : ((wr.alloc (.cells #[.int .i64 (en : Int), .slice (some ⟨bp, offp, none⟩) (r.length + 1) cp] 127)).alloc (.cells #[.int .i64 0, .string lf] 99)).ownsRow w.heap.size 99 2 (.slice (some ⟨wr.heap.size + 1, 0, none⟩) 1 1) 1 [.int .i64 0, .string lf] := by simpa using hlit
          clear hlit
          go_wp2_with (at_builtin; refine wpList_append_any _ rfl (.tmp 30) (.tmp 31) 80 rfl w.heap.size 99 i0 (.agg #[.int .i64 0, .string ⟨#[]⟩]) 2 24 Try.underlying80 hi0 hz0 hz1 hz2 rfl (by decide) _ _ _ rfl hlit2 _ (some ⟨bp, offp + 2, none⟩) r.length ((cp - 1)) (flatP r) rfl (reads_of_row hrow2 (flatP_length r) (by decide)) ?b1 ?b2 ?b3 ?b4 ?b5)
          case b1 => exact flatP_oneCell r
          case b2 => unfold maxLen; omega
          case b3 => omega
          case b4 => (try simp); have := hb1.size; (try simp at this); omega
          case b5 =>
            intro v2 w2 hown2 hg2 _
            have hown2' : w2.ownsRow w.heap.size 99 2 v2 (((0, lf) :: r : List Pc)).length (flatP ((0, lf) :: r)) := by first | exact hown2 | (rw [List.length_cons, Nat.add_comm]; exact hown2)
            obtain ⟨A2, c2, rfl⟩ := own_slice hown2'
            have HONE2 := Lib.hid (WOne.own (k := en) hown2')
            have hbl : Below wr.heap.size wr w2 := (((Below.refl _ _).alloc (Nat.le_refl _) _).alloc (by simp) _).grown hg2 (by simp; omega) (fun q hq => by simp [Value.ownBlock] at hq; omega)
            have HW3 := Lib.hid (HW.out.below hbl)
            have hown3 := own_below hown hbl
            have hb3 := hbw.trans (hbl.mono hbw.size)
            have hbx : w2.cell? ⟨wr.heap.size, 0, none⟩ = some (.int .i64 (en : Int)) := (cell_far hg2 ⟨wr.heap.size, 0, none⟩ (by simp; omega) (by simp [Value.ownBlock])).trans (by simp)
            clear hown2 hown2' hg2 hbl hown hown1 hb1 hlit2 hrow2 HW
            go_wp2_with (at_builtin; refine wpList_append_any _ rfl (.tmp 33) (.tmp 38) 124 rfl w.heap.size 127 j0 (.agg #[.int .i64 0, .slice none 0 0]) 2 32 Try.underlying124 hj0 hy0 hy1 hy2 rfl (by decide) _ _ _ rfl (hown3.alloc _) _ (some ⟨w2.heap.size, 0, none⟩) 1 1 [.int .i64 (en : Int), .slice A2 (((0, lf) :: r : List Pc)).length c2] rfl (reads_of_row (row_newc w2 _ 127 (by simp)) rfl (by decide)) ?d1 ?d2 ?d3 ?d4 ?d5)
            case d1 => first | exact ⟨rfl, rfl⟩ | (intro u hu; simp at hu; rcases hu with rfl | rfl <;> rfl)
            case d2 => unfold maxLen; omega
            case d3 => omega
            case d4 => (try simp); have := hb3.size; (try simp at this); omega
            case d5 =>
              intro vd wd hownd hgd _
              have hbd := (hb3.alloc (hb3.size) _).grown hgd (by (try simp); have := hb3.size; (try simp at this); omega) (own_lt hown3)
              have hod : wd.ownsRow w.heap.size 127 2 vd (out ++ [((en, (A2, c2), ((0, lf) :: r : List Pc)) : Wy)]).length (flatW (out ++ [((en, (A2, c2), ((0, lf) :: r : List Pc)) : Wy)])) := by rw [flatW_append, List.length_append]; exact hownd
              have HM2 := Lib.hid (show (out ++ [((en, (A2, c2), ((0, lf) :: r : List Pc)) : Wy)]).map plW = cutP n ((l.take (k + 1)).map plW) by rw [List.map_append, HM.out, HST.out, HCUT.out, if_neg hlz]; rfl)
              have HO := Lib.hid hod
              have HB := Lib.hid hbd
              have HW2 := Lib.hid (((WOk.append HW3.out (WOk.one HONE2.out)).alloc _).grown (hown3.alloc _) (by decide) hgd)
              clear hod hbd hownd hgd
              go_wp2
              go_roundw
              case rel => exact ⟨k + 1, _, by omega, by go_num, by rw [List.length_append]; simp; omega, HM2, HO.out, HW2, HB.out⟩
              case measure => simp [RowKit.intOf]; omega
    · obtain rfl : k = l.length := by omega
      have hm := HM.out
      rw [List.take_length] at hm
      have HM2 := Lib.hid hm
      clear hm HM
      go_wp2
      go_ret
      exact gives_ways HM2.out hown HW.out hbw
end Go.Proofs.Ytkhgnfofinpofaa

/-
  Where a tree lies in memory; the walk of build.
-/
namespace Go.Proofs.Ytkhgnfofinpofaa
open Go.RowKit Go.Shelf Go.Lib Go.Maps Go.WideMaps

/-- What lay in some blocks lies there still. -/
def Hold (S : Nat → Prop) (w w' : World) : Prop := w.heap.size ≤ w'.heap.size ∧ ∀ b, S b → b < w.heap.size → w'.heap[b]? = w.heap[b]?
theorem Hold.of_below {S : Nat → Prop} {w w' : World} (h : Below w.heap.size w w') : Hold S w w' := ⟨h.size, fun b _ hb => h.block b hb⟩
theorem Hold.of_grown {S : Nat → Prop} {w w' : World} {row : Option Nat} (h : w.grownBy w' row) (hr : ∀ b, row = some b → ¬ S b) : Hold S w w' :=
  ⟨h.size, fun b hlo hb => h.block b hb (fun e => hr b e.symm hlo)⟩
theorem Hold.cell {S : Nat → Prop} {w w' : World} (h : Hold S w w') (p : Addr) (h1 : S p.block) (h2 : p.block < w.heap.size) : w'.cell? p = w.cell? p := World.cell?_of_block (h.2 p.block h1 h2)
/-- A row in one of some blocks. -/
def RowF (S : Nat → Prop) (w : World) (A : Option Addr) (xs : List Value) : Prop := 0 < xs.length → ∃ b off, A = some ⟨b, off, none⟩ ∧ S b ∧ b < w.heap.size ∧ ∀ j v, xs[j]? = some v → w.cell? ⟨b, off + j, none⟩ = some v
theorem RowF.row {S : Nat → Prop} {w : World} {A : Option Addr} {xs : List Value} (h : RowF S w A xs) : Row w A xs := fun hl => by
  obtain ⟨b, off, e, _, h2, h3⟩ := h hl
  exact ⟨b, off, e, h2, h3⟩
theorem RowF.hold {S : Nat → Prop} {w w' : World} {A : Option Addr} {xs : List Value} (h : RowF S w A xs) (hh : Hold S w w') : RowF S w' A xs := fun hl => by
  obtain ⟨b, off, e, h1, h2, h3⟩ := h hl
  exact ⟨b, off, e, h1, Nat.lt_of_lt_of_le h2 hh.1, fun j v hv => (hh.cell ⟨b, off + j, none⟩ h1 h2).trans (h3 j v hv)⟩
theorem RowF.mono {S S' : Nat → Prop} {w : World} {A : Option Addr} {xs : List Value} (h : RowF S w A xs) (hl : ∀ b, S b → b < w.heap.size → S' b) : RowF S' w A xs := fun h0 => by
  obtain ⟨b, off, e, h1, h2, h3⟩ := h h0
  exact ⟨b, off, e, hl b h1 h2, h2, h3⟩
theorem RowF.own {S : Nat → Prop} {base sz n c : Nat} {w : World} {E : TypeId} {A : Option Addr} {xs : List Value} (h : w.ownsRow base E sz (.slice A n c) n xs) (hl : ∀ b, (Value.slice A n c).ownBlock = some b → S b) : RowF S w A xs := fun h0 => by
  obtain ⟨b, off, e, h1, h2⟩ := own_row h h0
  have hb : (Value.slice A n c).ownBlock = some b := by rw [e]; rfl
  exact ⟨b, off, e, hl b hb, h1, h2⟩
/-- Where a node lies, and where a chain of edges lies. -/
def At (S : Nat → Prop) : Tr → (World → Value → Prop) × (World → List Value → List Value → Prop)
  | .none => (fun _ v => v = .pointer none, fun _ ts ps => ts = [] ∧ ps = [])
  | .node ends kids param rest => (fun w v => ∃ b TA tc KA kc ts ps pv rv, v = .pointer (some ⟨b, 0, none⟩) ∧ S b ∧ b < w.heap.size ∧
      w.cell? ⟨b, 0, none⟩ = some (.slice TA ts.length tc) ∧ w.cell? ⟨b, 1, none⟩ = some (.slice KA ps.length kc) ∧ w.cell? ⟨b, 2, none⟩ = some pv ∧ w.cell? ⟨b, 3, none⟩ = some rv ∧ w.cell? ⟨b, 4, none⟩ = some (.int .i64 (ends : Int)) ∧
      RowF S w TA ts ∧ RowF S w KA ps ∧ (At S kids).2 w ts ps ∧ (At S param).1 w pv ∧ (At S rest).1 w rv, fun _ _ _ => False)
  | .kid text t more => (fun _ _ => False, fun w ts ps => ∃ p ts' ps', ts = .string text :: ts' ∧ ps = p :: ps' ∧ (At S t).1 w p ∧ (At S more).2 w ts' ps')
theorem At.hold {S : Nat → Prop} {w w' : World} (hh : Hold S w w') : ∀ T : Tr, (∀ v, (At S T).1 w v → (At S T).1 w' v) ∧ (∀ ts ps, (At S T).2 w ts ps → (At S T).2 w' ts ps)
  | .none => ⟨fun _ h => h, fun _ _ h => h⟩
  | .node ends kids param rest => ⟨fun v h => by
      obtain ⟨b, TA, tc, KA, kc, ts, ps, pv, rv, h1, h2, h3, c0, c1, c2, c3, c4, r1, r2, k1, k2, k3⟩ := h
      have hc : ∀ i, w'.cell? ⟨b, i, none⟩ = w.cell? ⟨b, i, none⟩ := fun i => hh.cell ⟨b, i, none⟩ h2 h3
      exact ⟨b, TA, tc, KA, kc, ts, ps, pv, rv, h1, h2, Nat.lt_of_lt_of_le h3 hh.1, (hc 0).trans c0, (hc 1).trans c1, (hc 2).trans c2, (hc 3).trans c3, (hc 4).trans c4, r1.hold hh, r2.hold hh, (At.hold hh kids).2 _ _ k1, (At.hold hh param).1 _ k2, (At.hold hh rest).1 _ k3⟩,
    fun _ _ h => h.elim⟩
  | .kid text t more => ⟨fun _ h => h.elim, fun ts ps h => by
      obtain ⟨p, ts', ps', e1, e2, h1, h2⟩ := h
      exact ⟨p, ts', ps', e1, e2, (At.hold hh t).1 _ h1, (At.hold hh more).2 _ _ h2⟩⟩
theorem At.mono {S S' : Nat → Prop} {w : World} (hl : ∀ b, S b → b < w.heap.size → S' b) : ∀ T : Tr, (∀ v, (At S T).1 w v → (At S' T).1 w v) ∧ (∀ ts ps, (At S T).2 w ts ps → (At S' T).2 w ts ps)
  | .none => ⟨fun _ h => h, fun _ _ h => h⟩
  | .node ends kids param rest => ⟨fun v h => by
      obtain ⟨b, TA, tc, KA, kc, ts, ps, pv, rv, h1, h2, h3, c0, c1, c2, c3, c4, r1, r2, k1, k2, k3⟩ := h
      exact ⟨b, TA, tc, KA, kc, ts, ps, pv, rv, h1, hl b h2 h3, h3, c0, c1, c2, c3, c4, r1.mono hl, r2.mono hl, (At.mono hl kids).2 _ _ k1, (At.mono hl param).1 _ k2, (At.mono hl rest).1 _ k3⟩,
    fun _ _ h => h.elim⟩
  | .kid text t more => ⟨fun _ h => h.elim, fun ts ps h => by
      obtain ⟨p, ts', ps', e1, e2, h1, h2⟩ := h
      exact ⟨p, ts', ps', e1, e2, (At.mono hl t).1 _ h1, (At.mono hl more).2 _ _ h2⟩⟩
/-- The edges that are gathered so far. -/
def KL (S : Nat → Prop) (w : World) : List (ByteArray × Tr) → List Value → Prop
  | [], [] => True
  | x :: l, p :: ps => (At S x.2).1 w p ∧ KL S w l ps
  | _, _ => False
theorem KL.length {S : Nat → Prop} {w : World} : ∀ (l : List (ByteArray × Tr)) (ps : List Value), KL S w l ps → ps.length = l.length
  | [], [], _ => rfl
  | _ :: l, _ :: ps, h => by rw [List.length_cons, List.length_cons, KL.length l ps h.2]
  | [], _ :: _, h => h.elim
  | _ :: _, [], h => h.elim
theorem KL.snoc {S : Nat → Prop} {w : World} {x : ByteArray × Tr} {p : Value} : ∀ (l : List (ByteArray × Tr)) (ps : List Value), KL S w l ps → (At S x.2).1 w p → KL S w (l ++ [x]) (ps ++ [p])
  | [], [], _, h => ⟨h, trivial⟩
  | _ :: l, _ :: ps, hk, h => ⟨hk.1, KL.snoc l ps hk.2 h⟩
  | [], _ :: _, hk, _ => hk.elim
  | _ :: _, [], hk, _ => hk.elim
theorem KL.hold {S : Nat → Prop} {w w' : World} (hh : Hold S w w') : ∀ (l : List (ByteArray × Tr)) (ps : List Value), KL S w l ps → KL S w' l ps
  | [], [], h => h
  | x :: l, _ :: ps, h => ⟨(At.hold hh x.2).1 _ h.1, KL.hold hh l ps h.2⟩
  | [], _ :: _, h => h.elim
  | _ :: _, [], h => h.elim
theorem KL.mono {S S' : Nat → Prop} {w : World} (hl : ∀ b, S b → b < w.heap.size → S' b) : ∀ (l : List (ByteArray × Tr)) (ps : List Value), KL S w l ps → KL S' w l ps
  | [], [], h => h
  | x :: l, _ :: ps, h => ⟨(At.mono hl x.2).1 _ h.1, KL.mono hl l ps h.2⟩
  | [], _ :: _, h => h.elim
  | _ :: _, [], h => h.elim
theorem KL.chain {S : Nat → Prop} {w : World} : ∀ (l : List (ByteArray × Tr)) (ps : List Value), KL S w l ps → (At S (chain l)).2 w (l.map fun x => .string x.1) ps
  | [], [], _ => ⟨rfl, rfl⟩
  | _ :: l, p :: ps, h => ⟨p, _, _, rfl, rfl, h.1, KL.chain l ps h.2⟩
  | [], _ :: _, h => h.elim
  | _ :: _, [], h => h.elim
theorem info_node : (Try.prog.info? 76).map (fun i => (i.zero, i.size, i.bytes)) = some (some (.agg #[.slice none 0 0, .slice none 0 0, .pointer none, .pointer none, .int .i64 0]), 5, 72) := by kernel_rfl
/-- What build hands back. -/
def GivesNode (w : World) (T : Tr) (e : Ending) (w' : World) : Prop := ∃ q : Option Addr, e = .returned (.pointer q) ∧ (At (fun b => w.heap.size ≤ b) T).1 w' (.pointer q) ∧ Below w.heap.size w w'
/-- The family's rows are what the plain words say of the ways that were gone through. -/
structure Gth (ws : List Pw) (G : Nat → List Wy) : Prop where
  group : ∀ c, c < 256 → (G c).map plW = groupP c ws
  param : (G 256).map plW = edgeP 1 ws
  rest : (G 257).map plW = edgeP 2 ws
theorem Gth.start : Gth [] (fun _ => []) := ⟨fun _ _ => rfl, rfl, rfl⟩
section
variable {ws : List Pw} {G : Nat → List Wy} {x : Wy}
theorem Gth.ends (h : Gth ws G) (hx : x.2.2 = []) : Gth (ws ++ [plW x]) G := by
  have hp : (plW x).2 = [] := hx
  refine ⟨fun c hc => ?_, ?_, ?_⟩
  · rw [groupP_snoc, h.group c hc]; unfold groupOne; rw [hp]; simp
  · rw [edgeP_snoc, h.param]; unfold edgeOne; rw [hp]; simp
  · rw [edgeP_snoc, h.rest]; unfold edgeOne; rw [hp]; simp
theorem Gth.edge (h : Gth ws G) {p : Pc} {r : List Pc} (hx : x.2.2 = p :: r) {y : Wy} (hy : plW y = (x.1, r)) (k : Nat) (hk : (k = 256 ∧ p.1 = 1) ∨ (k = 257 ∧ p.1 = 2)) : Gth (ws ++ [plW x]) (upd G k (G k ++ [y])) := by
  have hp : (plW x).2 = p :: r := hx
  have hx1 : (plW x).1 = x.1 := rfl
  refine ⟨fun c hc => ?_, ?_, ?_⟩
  · rw [upd_other (by omega), groupP_snoc, h.group c hc]
    unfold groupOne
    rw [hp]
    dsimp only
    rw [if_pos (by omega)]
    simp
  · rw [edgeP_snoc]
    unfold edgeOne
    rw [hp]
    dsimp only
    rcases hk with ⟨rfl, e⟩ | ⟨rfl, e⟩
    · rw [upd_same, if_pos e, List.map_append, h.param, hx1]
      simp [hy]
    · rw [upd_other (by decide), if_neg (by omega), h.param]
      simp
  · rw [edgeP_snoc]
    unfold edgeOne
    rw [hp]
    dsimp only
    rcases hk with ⟨rfl, e⟩ | ⟨rfl, e⟩
    · rw [upd_other (by decide), if_neg (by omega), h.rest]
      simp
    · rw [upd_same, if_pos e, List.map_append, h.rest, hx1]
      simp [hy]
theorem Gth.text (h : Gth ws G) {p : Pc} {r : List Pc} (hx : x.2.2 = p :: r) (h1 : ¬ p.1 = 1) (h2 : ¬ p.1 = 2) {c : Nat} (hc : c < 256) (hb : bt p.2 0 = c) : Gth (ws ++ [plW x]) (upd G c (G c ++ [x])) := by
  have hp : (plW x).2 = p :: r := hx
  refine ⟨fun d hd => ?_, ?_, ?_⟩
  · rw [groupP_snoc]
    unfold groupOne
    rw [hp]
    dsimp only
    rw [if_neg (by omega)]
    by_cases e : d = c
    · subst e
      rw [upd_same, if_pos hb, List.map_append, h.group d hd]
      simp
    · rw [upd_other e, if_neg (by omega), h.group d hd]
      simp
  · rw [upd_other (by omega), edgeP_snoc, h.param]
    unfold edgeOne
    rw [hp]
    dsimp only
    rw [if_neg h1]
    simp
  · rw [upd_other (by omega), edgeP_snoc, h.rest]
    unfold edgeOne
    rw [hp]
    dsimp only
    rw [if_neg h2]
    simp
end
end Go.Proofs.Ytkhgnfofinpofaa
