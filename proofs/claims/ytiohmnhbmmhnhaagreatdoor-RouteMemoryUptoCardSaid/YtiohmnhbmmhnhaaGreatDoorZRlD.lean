/-
 RlD, without what this claim does not reach.
-/
import Derived.Test.YtiohmnhbmmhnhaaGreatDoorZRlB
import Derived.Deep.DeepCutAuto
namespace Go.Proofs.YtiohmnhbmmhnhaaGreatDoor
open Go.RowKit Go.Shelf Go.Lib Go.Maps Go.WideMaps
def BuildOk (n : Nat) : Prop := ∀ (A : Option Addr) (c : Nat) (l : List Wy) (w : World), Row w A (flatW l) → WOk w l → wfW (l.map plW) → meas (l.map plW) < n → meas (l.map plW) ≤ 4194304 → l.length ≤ 4194304 → (∀ x ∈ l, x.1 ≤ 4194304) →
  Calls Tryz.prog 116 #[.slice A l.length c] w (GivesNode w (buildP n (l.map plW)))
set_option maxRecDepth 20000 in
set_option maxHeartbeats 16000000 in
theorem build_step (n : Nat) (IH : BuildOk n) (A : Option Addr) (c : Nat) (l : List Wy) (w : World) (hr : Row w A (flatW l)) (hok : WOk w l) (hwf : wfW (l.map plW)) (hm : meas (l.map plW) < n + 1) (hmm : meas (l.map plW) ≤ 4194304) (hl : l.length ≤ 4194304) (hen : ∀ x ∈ l, x.1 ≤ 4194304) :
  Calls Tryz.prog 116 #[.slice A l.length c] w (GivesNode w (buildP (n + 1) (l.map plW))) := by
  have HIH := Lib.hid IH
  clear IH
  obtain ⟨j0, hj0, hy0, hy1, hy2⟩ := info_parts info_way
  obtain ⟨k0, hk0, hx0, hx1, hx2⟩ := info_parts info_string
  obtain ⟨p0, hp0, hv0, hv1, hv2⟩ := info_parts info_ptr
  have hmk := @run_makeMap Tryz.prog
  have HR := Lib.hid hr
  have HOK := Lib.hid hok
  have HWF := Lib.hid hwf
  have HM := Lib.hid hm
  have HEN := Lib.hid hen
  have HMM := Lib.hid hmm
  clear hr hok hwf hm hen hmm
  go_enter Tryz.func116, Tryz.ntmps116
  go_wp2
  go_loopw [4, 5, 18] (fun pv rv i wr => ∃ (k : Nat) (F : Nat → Value) (G : Nat → List Wy), k ≤ l.length ∧ i = .int .i64 k ∧ pv = F 256 ∧ rv = F 257 ∧ One w wr ((l.take k).map plW) k F G) (fun _ _ i _ => l.length - (RowKit.intOf i).toNat)
  case atStart => exact ⟨0, _, _, by omega, rfl, rfl, rfl, One.start w⟩
  case round =>
   obtain ⟨k, F, G, hk, rfl, rfl, rfl, hO⟩ := hrel
   by_cases hlt : k < l.length
   ·obtain ⟨x, hx⟩ := some_of_lt hlt
    have hmem := List.mem_of_getElem? hx
    obtain ⟨bx, offx, rfl, hbx, g0, g1⟩ := (HR.out.below hO.below).way hx
    have hw1 := (HOK.out x hmem).below hO.below
    have hxe := HEN.out x hmem
    have hst := show (l.take (k + 1)).map plW = (l.take k).map plW ++ [plW x] by rw [take_snoc hx, List.map_append]; rfl
    have HST := Lib.hid hst
    have hob := hO.alloc (.cells #[.int .i64 (x.1 : Int), .slice x.2.1.1 x.2.2.length x.2.1.2] 192)
    clear hst
    cases hx2 : x.2.2 with
    | nil =>
     have HO2 := Lib.hid (hob.ends hx2)
     rw [hx2] at g1 HO2
     have hc4 := hob.own.cellAt 4 (by omega)
     have hf4 : (wr.alloc (.cells #[.int .i64 (x.1 : Int), .slice x.2.1.1 x.2.2.length x.2.1.2] 192)).frozen? ⟨w.heap.size, 4, none⟩ = false := hob.own.frozenAt _
     rw [hx2] at hc4 hf4
     rw [List.length_nil] at g1 HO2 hc4 hf4
     have hxi : (x.1 : Int) + 1 ≤ 4194305 := by omega
     clear hO hob hw1 hx hmem
     go_wp2
     go_roundw
     case rel => exact ⟨k + 1, F, G, by omega, by go_num, rfl, rfl, by rw [HST.out]; exact HO2.out⟩
     case measure => simp [RowKit.intOf]; omega
    | cons p r =>
     obtain ⟨bp, offp, ep, hbp, f0, f1⟩ := way_first hw1.1 hx2
     obtain ⟨hw2, hwt, hw3, hw4⟩ := hw1
     rw [ep] at hwt
     rw [ep, hx2] at hw2
     rw [hx2] at hw3
     have hrow := hw2.behind
     rw [ep, hx2] at g1 hob
     rw [List.length_cons] at g1 hob hw3
     obtain ⟨cp, hcp⟩ : ∃ cp, x.2.1.2 = cp := ⟨_, rfl⟩
     obtain ⟨en, hen⟩ : ∃ en, x.1 = en := ⟨_, rfl⟩
     rw [hcp] at g1 hob hw3 hw4
     rw [hen] at g0 hob hxe
     obtain ⟨hwf1, hwf2⟩ := HWF.out (plW x) (List.mem_map_of_mem hmem)
     have hp0 := hwf2 p (by show p ∈ x.2.2; rw [hx2]; exact List.mem_cons_self ..)
     have hp1 := hwf1 p (by show p ∈ x.2.2; rw [hx2]; exact List.mem_cons_self ..)
     have HX2 := Lib.hid hx2
     have HEN2 := Lib.hid hen
     have HFX := Lib.hid (show flatW [x] = [.int .i64 (en : Int), .slice (some ⟨bp, offp, none⟩) (r.length + 1) cp] by
      show [Value.int .i64 (x.1 : Int), .slice x.2.1.1 x.2.2.length x.2.1.2] = _
      rw [hen, ep, hx2, List.length_cons, hcp])
     clear ep hw2 hcp hen hwf1 hwf2 hx2
     obtain ⟨pk, pt⟩ := p
     dsimp only at hp0 hp1 f0 f1
     rcases hp0 with hp0 | hp0 | hp0
     ·subst hp0
      have hpz := hp1 rfl
      obtain ⟨ch, hch⟩ : ∃ ch : Nat, (pt[0]'hpz).toNat = ch := ⟨_, rfl⟩
      have hbt : bt pt 0 = (ch : Int) := by rw [← @bt_eq pt 0 hpz, hch]
      have hcl : ch < 256 := by rw [← hch]; exact UInt8.toNat_lt _
      have hlk := hob.mp.look hcl
      have hF := hob.fam.own ch (by omega)
      obtain ⟨gl, hgl⟩ : ∃ gl, (G ch).length = gl := ⟨_, rfl⟩
      have hglk := hob.len ch
      have hsz := hO.size
      rw [hgl] at hF hglk
      have HWX := Lib.hid ((HOK.out x hmem).below hO.below)
      have HOB := Lib.hid hob
      have HGL := Lib.hid hgl
      have HBT := Lib.hid hbt
      have hpz2 : (0 : Int) < (pt.size : Int) := by omega
      clear hO hob hmem hx hgl hbt hp1
      go_wp2_with (at_builtin; refine wpList_append_any _ rfl (.tmp 32) (.tmp 34) 189 rfl (w.heap.size + 2) 192 j0 (.agg #[.int .i64 0, .slice none 0 0]) 2 32 Tryz.underlying189 hj0 hy0 hy1 hy2 rfl (by decide) _ _ _ rfl (hF.alloc _) _ (some ⟨wr.heap.size + 1, 0, none⟩) 1 1 [.int .i64 (en : Int), .slice (some ⟨bp, offp, none⟩) (r.length + 1) cp] rfl (reads_of_row (row_newc _ _ _ (by simp)) rfl (by decide)) ?c1 ?c2 ?c3 ?c4 ?c5)
      case c1 => first | exact ⟨rfl, rfl⟩ | (intro u hu; simp at hu; rcases hu with rfl | rfl <;> rfl)
      case c2 => unfold maxLen; omega
      case c3 => omega
      case c4 => simp; omega
      case c5 =>
       intro v' w2 hown2 hg2 alt2
       obtain ⟨d, hd⟩ := sliceEnc_own hown2
       have hOW := HOB.out.alloc (.cells #[.int .i64 (en : Int), .slice (some ⟨bp, offp, none⟩) (r.length + 1) cp] 192)
       have hlo := own_lt hF
       have hMp2 : Mp w2 (w.heap.size + 1) k F := hOW.mp.kept hg2 (fun e => by have h3 : w.heap.size + 2 ≤ w.heap.size + 1 := hlo _ e.symm; omega)
       have HTX := Lib.hid (fun (w3 : World) hm3 hg3 => hOW.text HX2.out rfl hcl HBT.out (v' := v') (w2 := w2) (w3 := w3) ((HWX.out.alloc _).alloc _) (by rw [HGL.out, HFX.out]; exact hown2) hg2 (by simpa using alt2) hm3 hg3)
       clear hOW hlo hown2 hg2 alt2 hF hlk
       go_wp2_with (refine wpList_put rfl _ _ _ rfl rfl hMp2 (by unfold maxLen; omega) ch hcl v' rfl rfl d hd ?_)
       intro w3 hm3 hg3
       have HO3 := Lib.hid (HTX.out w3 hm3 hg3)
       clear hm3 hg3 hMp2 hd
       go_wp2
       go_roundw
       case rel => exact ⟨k + 1, upd F ch v', upd G ch (G ch ++ [x]), by omega, by go_num, (upd_other (show (256 : Nat) ≠ ch by omega)).symm, (upd_other (show (257 : Nat) ≠ ch by omega)).symm, by rw [HST.out]; exact HO3.out⟩
       case measure => simp [RowKit.intOf]; omega
     ·subst hp0
      by_cases hc1 : cp = 1
      ·subst hc1
       obtain rfl : r = [] := List.eq_nil_of_length_eq_zero (by omega)
       rw [List.length_nil] at g1 hob
       have HS := Lib.hid (show (wr.alloc (.cells #[.int .i64 (en : Int), .slice (some ⟨bp, offp, none⟩) (1) 1] 192)).cell? ⟨wr.heap.size, 0, none⟩ = some (.int .i64 (en : Int)) ∧ (wr.alloc (.cells #[.int .i64 (en : Int), .slice (some ⟨bp, offp, none⟩) (1) 1] 192)).cell? ⟨wr.heap.size, 1, none⟩ = some (.slice (some ⟨bp, offp, none⟩) (1) 1) from ⟨by simp, by simp⟩)
       have hF := hob.fam.own 256 (by decide)
       obtain ⟨gl, hgl⟩ : ∃ gl, (G 256).length = gl := ⟨_, rfl⟩
       have hglk := hob.len 256
       have hsz := hO.size
       have HNB := Lib.hid (show some wr.heap.size ≠ (F 256).ownBlock from fun e => by have := own_blt (hO.fam.own 256 (by decide)) _ e.symm; omega)
       rw [hgl] at hF
       rw [hgl] at hglk
       have HONE := Lib.hid (show WOne (wr.alloc (.cells #[.int .i64 (en : Int), .slice (some ⟨bp, offp, none⟩) (1) 1] 192)) ((en, (some ⟨bp, offp, none⟩, 0), []) : Wy) from WOne.alloc (x := ((en, (some ⟨bp, offp, none⟩, 0), []) : Wy)) ⟨fun h => absurd h (Nat.lt_irrefl 0), hwt, Nat.le_refl _, Nat.zero_le _⟩ _)
       have HOB := Lib.hid hob
       have HGL := Lib.hid hgl
       clear hO hob hmem hx hgl
       go_wp2_with fail
       go_region_held3 (fun w' => w'.cell? ⟨wr.heap.size, 0, none⟩ = some (.int .i64 (en : Int)) ∧ w'.cell? ⟨wr.heap.size, 1, none⟩ = some (.slice (some ⟨bp, offp, none⟩) (1) 1)) (first | exact HS.out | exact ⟨hSB0, hSB1⟩ | assumption | go_keep) ((refine step_append_any _ rfl (.tmp 54) (.tmp 61) 189 rfl (w.heap.size + 2) 192 j0 (.agg #[.int .i64 0, .slice none 0 0]) 2 32 Tryz.underlying189 hj0 hy0 hy1 hy2 rfl (by decide) _ _ _ (by rfl) (hF.drew.alloc _) _ (some ⟨wr.heap.size + 1, 0, none⟩) 1 1 [.int .i64 (en : Int), .slice (some ⟨bp, offp, none⟩) (0) (0)] (by rfl) (reads_of_row (row_newc _ _ _ (by simp)) rfl (by decide)) (by intro u hu; simp at hu; rcases hu with rfl | rfl <;> rfl) (by unfold maxLen; omega) (by omega) (by simp; omega) ?_; intro v' w2 hown2 hg2 alt2; have hSB0 := (cell_far hg2 ⟨wr.heap.size, 0, none⟩ (by simp; omega) HNB.out).trans (by simp; rfl); have hSB1 := (cell_far hg2 ⟨wr.heap.size, 1, none⟩ (by simp; omega) HNB.out).trans (by simp; rfl)))
       all_goals
        have HO3 := Lib.hid (((HOB.out.alloc (.cells #[.int .i64 (en : Int), .slice (some ⟨bp, offp, none⟩) (0) (0)] 192)).belowW (below_drew (Below.refl _ _))).edge HX2.out (y := ((en, (some ⟨bp, offp, none⟩, 0), []) : Wy)) (by rw [HEN2.out]; rfl) 256 (.inl ⟨rfl, rfl⟩) (v' := v') (w2 := w2) ((HONE.out.alloc _).below (below_drew (Below.refl _ _))) (by rw [HGL.out]; exact hown2) hg2 alt2)
        clear hown2 hg2 alt2 hSB0 hSB1 hF HOB HONE
        go_wp2
        go_roundw
        case rel => exact ⟨k + 1, _, _, by omega, by go_num, (upd_same _ _ _).symm, (upd_other (by decide)).symm, by rw [HST.out]; exact HO3.out⟩
        case measure => simp [RowKit.intOf]; omega
      ·have hc2 : ¬ cp ≤ 1 := by omega
       have HS := Lib.hid (show (wr.alloc (.cells #[.int .i64 (en : Int), .slice (some ⟨bp, offp, none⟩) (r.length + 1) cp] 192)).cell? ⟨wr.heap.size, 0, none⟩ = some (.int .i64 (en : Int)) ∧ (wr.alloc (.cells #[.int .i64 (en : Int), .slice (some ⟨bp, offp, none⟩) (r.length + 1) cp] 192)).cell? ⟨wr.heap.size, 1, none⟩ = some (.slice (some ⟨bp, offp, none⟩) (r.length + 1) cp) from ⟨by simp, by simp⟩)
       have hF := hob.fam.own 256 (by decide)
       obtain ⟨gl, hgl⟩ : ∃ gl, (G 256).length = gl := ⟨_, rfl⟩
       have hglk := hob.len 256
       have hsz := hO.size
       have HNB := Lib.hid (show some wr.heap.size ≠ (F 256).ownBlock from fun e => by have := own_blt (hO.fam.own 256 (by decide)) _ e.symm; omega)
       have hci : (r.length : Int) + 1 ≤ (cp : Int) := by omega
       have hci2 : (1 : Int) ≤ (r.length : Int) + 1 := by omega
       have hci3 : (1 : Int) ≤ (cp : Int) := by omega
       rw [hgl] at hF
       rw [hgl] at hglk
       have HONE := Lib.hid (show WOne (wr.alloc (.cells #[.int .i64 (en : Int), .slice (some ⟨bp, offp, none⟩) (r.length + 1) cp] 192)) ((en, (some ⟨bp, offp + 2, none⟩, cp - 1), r) : Wy) from WOne.alloc ⟨hrow, hwt.shift, by show r.length ≤ cp - 1; omega, by show cp - 1 ≤ maxLen; omega⟩ _)
       have HOB := Lib.hid hob
       have HGL := Lib.hid hgl
       clear hO hob hmem hx hgl
       go_wp2_with fail
       go_region_held3 (fun w' => w'.cell? ⟨wr.heap.size, 0, none⟩ = some (.int .i64 (en : Int)) ∧ w'.cell? ⟨wr.heap.size, 1, none⟩ = some (.slice (some ⟨bp, offp, none⟩) (r.length + 1) cp)) (first | exact HS.out | exact ⟨hSB0, hSB1⟩ | assumption | go_keep) ((refine step_append_any _ rfl (.tmp 54) (.tmp 61) 189 rfl (w.heap.size + 2) 192 j0 (.agg #[.int .i64 0, .slice none 0 0]) 2 32 Tryz.underlying189 hj0 hy0 hy1 hy2 rfl (by decide) _ _ _ (by rfl) (hF.drew.alloc _) _ (some ⟨wr.heap.size + 1, 0, none⟩) 1 1 [.int .i64 (en : Int), .slice (some ⟨bp, offp + 2, none⟩) (r.length) (cp - 1)] (by rfl) (reads_of_row (row_newc _ _ _ (by simp)) rfl (by decide)) (by intro u hu; simp at hu; rcases hu with rfl | rfl <;> rfl) (by unfold maxLen; omega) (by omega) (by simp; omega) ?_; intro v' w2 hown2 hg2 alt2; have hSB0 := (cell_far hg2 ⟨wr.heap.size, 0, none⟩ (by simp; omega) HNB.out).trans (by simp; rfl); have hSB1 := (cell_far hg2 ⟨wr.heap.size, 1, none⟩ (by simp; omega) HNB.out).trans (by simp; rfl)))
       all_goals
        have HO3 := Lib.hid (((HOB.out.alloc (.cells #[.int .i64 (en : Int), .slice (some ⟨bp, offp + 2, none⟩) (r.length) (cp - 1)] 192)).belowW (below_drew (Below.refl _ _))).edge HX2.out (y := ((en, (some ⟨bp, offp + 2, none⟩, cp - 1), r) : Wy)) (by rw [HEN2.out]; rfl) 256 (.inl ⟨rfl, rfl⟩) (v' := v') (w2 := w2) ((HONE.out.alloc _).below (below_drew (Below.refl _ _))) (by rw [HGL.out]; exact hown2) hg2 alt2)
        clear hown2 hg2 alt2 hSB0 hSB1 hF HOB HONE
        go_wp2
        go_roundw
        case rel => exact ⟨k + 1, _, _, by omega, by go_num, (upd_same _ _ _).symm, (upd_other (by decide)).symm, by rw [HST.out]; exact HO3.out⟩
        case measure => simp [RowKit.intOf]; omega
     ·subst hp0
      by_cases hc1 : cp = 1
      ·subst hc1
       obtain rfl : r = [] := List.eq_nil_of_length_eq_zero (by omega)
       rw [List.length_nil] at g1 hob
       have HS := Lib.hid (show (wr.alloc (.cells #[.int .i64 (en : Int), .slice (some ⟨bp, offp, none⟩) (1) 1] 192)).cell? ⟨wr.heap.size, 0, none⟩ = some (.int .i64 (en : Int)) ∧ (wr.alloc (.cells #[.int .i64 (en : Int), .slice (some ⟨bp, offp, none⟩) (1) 1] 192)).cell? ⟨wr.heap.size, 1, none⟩ = some (.slice (some ⟨bp, offp, none⟩) (1) 1) from ⟨by simp, by simp⟩)
       have hF := hob.fam.own 257 (by decide)
       obtain ⟨gl, hgl⟩ : ∃ gl, (G 257).length = gl := ⟨_, rfl⟩
       have hglk := hob.len 257
       have hsz := hO.size
       have HNB := Lib.hid (show some wr.heap.size ≠ (F 257).ownBlock from fun e => by have := own_blt (hO.fam.own 257 (by decide)) _ e.symm; omega)
       rw [hgl] at hF
       rw [hgl] at hglk
       have HONE := Lib.hid (show WOne (wr.alloc (.cells #[.int .i64 (en : Int), .slice (some ⟨bp, offp, none⟩) (1) 1] 192)) ((en, (some ⟨bp, offp, none⟩, 0), []) : Wy) from WOne.alloc (x := ((en, (some ⟨bp, offp, none⟩, 0), []) : Wy)) ⟨fun h => absurd h (Nat.lt_irrefl 0), hwt, Nat.le_refl _, Nat.zero_le _⟩ _)
       have HOB := Lib.hid hob
       have HGL := Lib.hid hgl
       clear hO hob hmem hx hgl
       go_wp2_with fail
       go_region_held3 (fun w' => w'.cell? ⟨wr.heap.size, 0, none⟩ = some (.int .i64 (en : Int)) ∧ w'.cell? ⟨wr.heap.size, 1, none⟩ = some (.slice (some ⟨bp, offp, none⟩) (1) 1)) (first | exact HS.out | exact ⟨hSB0, hSB1⟩ | assumption | go_keep) ((refine step_append_any _ rfl (.tmp 70) (.tmp 77) 189 rfl (w.heap.size + 2) 192 j0 (.agg #[.int .i64 0, .slice none 0 0]) 2 32 Tryz.underlying189 hj0 hy0 hy1 hy2 rfl (by decide) _ _ _ (by rfl) (hF.drew.alloc _) _ (some ⟨wr.heap.size + 1, 0, none⟩) 1 1 [.int .i64 (en : Int), .slice (some ⟨bp, offp, none⟩) (0) (0)] (by rfl) (reads_of_row (row_newc _ _ _ (by simp)) rfl (by decide)) (by intro u hu; simp at hu; rcases hu with rfl | rfl <;> rfl) (by unfold maxLen; omega) (by omega) (by simp; omega) ?_; intro v' w2 hown2 hg2 alt2; have hSB0 := (cell_far hg2 ⟨wr.heap.size, 0, none⟩ (by simp; omega) HNB.out).trans (by simp; rfl); have hSB1 := (cell_far hg2 ⟨wr.heap.size, 1, none⟩ (by simp; omega) HNB.out).trans (by simp; rfl)))
       all_goals
        have HO3 := Lib.hid (((HOB.out.alloc (.cells #[.int .i64 (en : Int), .slice (some ⟨bp, offp, none⟩) (0) (0)] 192)).belowW (below_drew (Below.refl _ _))).edge HX2.out (y := ((en, (some ⟨bp, offp, none⟩, 0), []) : Wy)) (by rw [HEN2.out]; rfl) 257 (.inr ⟨rfl, rfl⟩) (v' := v') (w2 := w2) ((HONE.out.alloc _).below (below_drew (Below.refl _ _))) (by rw [HGL.out]; exact hown2) hg2 alt2)
        clear hown2 hg2 alt2 hSB0 hSB1 hF HOB HONE
        go_wp2
        go_roundw
        case rel => exact ⟨k + 1, _, _, by omega, by go_num, (upd_other (by decide)).symm, (upd_same _ _ _).symm, by rw [HST.out]; exact HO3.out⟩
        case measure => simp [RowKit.intOf]; omega
      ·have hc2 : ¬ cp ≤ 1 := by omega
       have HS := Lib.hid (show (wr.alloc (.cells #[.int .i64 (en : Int), .slice (some ⟨bp, offp, none⟩) (r.length + 1) cp] 192)).cell? ⟨wr.heap.size, 0, none⟩ = some (.int .i64 (en : Int)) ∧ (wr.alloc (.cells #[.int .i64 (en : Int), .slice (some ⟨bp, offp, none⟩) (r.length + 1) cp] 192)).cell? ⟨wr.heap.size, 1, none⟩ = some (.slice (some ⟨bp, offp, none⟩) (r.length + 1) cp) from ⟨by simp, by simp⟩)
       have hF := hob.fam.own 257 (by decide)
       obtain ⟨gl, hgl⟩ : ∃ gl, (G 257).length = gl := ⟨_, rfl⟩
       have hglk := hob.len 257
       have hsz := hO.size
       have HNB := Lib.hid (show some wr.heap.size ≠ (F 257).ownBlock from fun e => by have := own_blt (hO.fam.own 257 (by decide)) _ e.symm; omega)
       have hci : (r.length : Int) + 1 ≤ (cp : Int) := by omega
       have hci2 : (1 : Int) ≤ (r.length : Int) + 1 := by omega
       have hci3 : (1 : Int) ≤ (cp : Int) := by omega
       rw [hgl] at hF
       rw [hgl] at hglk
       have HONE := Lib.hid (show WOne (wr.alloc (.cells #[.int .i64 (en : Int), .slice (some ⟨bp, offp, none⟩) (r.length + 1) cp] 192)) ((en, (some ⟨bp, offp + 2, none⟩, cp - 1), r) : Wy) from WOne.alloc ⟨hrow, hwt.shift, by show r.length ≤ cp - 1; omega, by show cp - 1 ≤ maxLen; omega⟩ _)
       have HOB := Lib.hid hob
       have HGL := Lib.hid hgl
       clear hO hob hmem hx hgl
       go_wp2_with fail
       go_region_held3 (fun w' => w'.cell? ⟨wr.heap.size, 0, none⟩ = some (.int .i64 (en : Int)) ∧ w'.cell? ⟨wr.heap.size, 1, none⟩ = some (.slice (some ⟨bp, offp, none⟩) (r.length + 1) cp)) (first | exact HS.out | exact ⟨hSB0, hSB1⟩ | assumption | go_keep) ((refine step_append_any _ rfl (.tmp 70) (.tmp 77) 189 rfl (w.heap.size + 2) 192 j0 (.agg #[.int .i64 0, .slice none 0 0]) 2 32 Tryz.underlying189 hj0 hy0 hy1 hy2 rfl (by decide) _ _ _ (by rfl) (hF.drew.alloc _) _ (some ⟨wr.heap.size + 1, 0, none⟩) 1 1 [.int .i64 (en : Int), .slice (some ⟨bp, offp + 2, none⟩) (r.length) (cp - 1)] (by rfl) (reads_of_row (row_newc _ _ _ (by simp)) rfl (by decide)) (by intro u hu; simp at hu; rcases hu with rfl | rfl <;> rfl) (by unfold maxLen; omega) (by omega) (by simp; omega) ?_; intro v' w2 hown2 hg2 alt2; have hSB0 := (cell_far hg2 ⟨wr.heap.size, 0, none⟩ (by simp; omega) HNB.out).trans (by simp; rfl); have hSB1 := (cell_far hg2 ⟨wr.heap.size, 1, none⟩ (by simp; omega) HNB.out).trans (by simp; rfl)))
       all_goals
        have HO3 := Lib.hid (((HOB.out.alloc (.cells #[.int .i64 (en : Int), .slice (some ⟨bp, offp + 2, none⟩) (r.length) (cp - 1)] 192)).belowW (below_drew (Below.refl _ _))).edge HX2.out (y := ((en, (some ⟨bp, offp + 2, none⟩, cp - 1), r) : Wy)) (by rw [HEN2.out]; rfl) 257 (.inr ⟨rfl, rfl⟩) (v' := v') (w2 := w2) ((HONE.out.alloc _).below (below_drew (Below.refl _ _))) (by rw [HGL.out]; exact hown2) hg2 alt2)
        clear hown2 hg2 alt2 hSB0 hSB1 hF HOB HONE
        go_wp2
        go_roundw
        case rel => exact ⟨k + 1, _, _, by omega, by go_num, (upd_other (by decide)).symm, (upd_same _ _ _).symm, by rw [HST.out]; exact HO3.out⟩
        case measure => simp [RowKit.intOf]; omega
   ·obtain rfl : k = l.length := by omega
    rw [List.take_length] at hO
    have hT := Two.start hO
    have HG := Lib.hid hO.gth
    have HLN := Lib.hid hO.len
    clear hO
    go_upto_region 16 with (fail)
    go_cut [81] (fun b wx => ∃ d : Bool, b = .bool d ∧ Hid (d = !decide (G 256 = [])) ∧ wx = wr)
    case first =>
     by_cases hna : G 256 = []
     ·have hFa := hT.nil 256 (by decide) hna
      go_wp2_with (fail)
      go_meet
      exact ⟨false, rfl, Lib.hid (by rw [decide_eq_true hna]; rfl), rfl⟩
     ·obtain ⟨ga, cca, hFa, hrowa⟩ := hT.slice (show 256 < 258 by decide) hna
      go_wp2_with (fail)
      go_meet
      exact ⟨true, rfl, Lib.hid (by rw [decide_eq_false hna]; rfl), rfl⟩
    obtain ⟨da, rfl, HDa, rfl⟩ := hcut
    go_upto_if 81 with (fail)
    go_cut [4] (fun s4 wx => ∃ (S : Nat → Prop) (pv : Value), Two w wx F G S (.slice none 0 0) (.slice none 0 0) pv (.pointer none) (endsP (l.map plW)) [] [] [] (edgeT (buildP n) (edgeP 1 (l.map plW))) .none)
    case first =>
     by_cases hna : G 256 = []
     ·have hFa := hT.nil 256 (by decide) hna
      obtain rfl : da = false := by rw [HDa.out, decide_eq_true hna]; rfl
      have hpla := HG.out.param
      have hea : Tr.none = edgeT (buildP n) (edgeP 1 (l.map plW)) := (edgeT_none (by rw [← hpla, hna]; rfl)).symm
      have HEa := Lib.hid hea
      clear hpla hea
      have HTT := Lib.hid (hT.cast HEa.out rfl)
      clear hT
      go_wp2_with (fail)
      go_meet
      exact ⟨_, _, HTT.out⟩
     ·obtain rfl : da = true := by rw [HDa.out, decide_eq_false hna]; rfl
      obtain ⟨ga, cca, hFa, hrowa⟩ := hT.slice (show 256 < 258 by decide) hna
      have hpla := HG.out.param
      have hnea : ¬ edgeP 1 (l.map plW) = [] := fun e => hna (by rw [e] at hpla; simpa using hpla)
      have hmsa := edge_meas 1 (l.map plW)
      have hlena : 0 < (edgeP 1 (l.map plW)).length := List.length_pos_iff.2 hnea
      have hBa := HIH.out (some ⟨ga, 0, none⟩) cca (G 256) _ hrowa (hT.ok 256 (by decide)) (by rw [hpla]; exact HWF.out.edge) (by rw [hpla]; have := HM.out; omega) (by rw [hpla]; have := HMM.out; omega) (Nat.le_trans (HLN.out 256) hl) (edge_le (l := l) hpla HEN.out)
      rw [hpla, ← edgeT_some (B := buildP n) hnea] at hBa
      have HBa := Lib.hid hBa
      clear hrowa hpla hnea hmsa hlena hBa
      go_wp2_with fail
      refine HBa.out.mono ?_
      rintro e wa ⟨va, rfl, hva, hba⟩
      obtain ⟨hTax, hvax⟩ := hT.child hba hva
      have hcla := hTax.own.cellAt 2 (by omega)
      have hfza : wa.frozen? ⟨w.heap.size, 2, none⟩ = false := hTax.own.frozenAt _
      have hTa := hTax.setParam hvax
      clear HBa hba hva hTax hvax hT
      have HTT := Lib.hid hTa
      clear hTa
      go_wp2_with (fail)
      go_meet
      exact ⟨_, _, HTT.out⟩
    case rest =>
     clear hT
     obtain ⟨S1, pv1, hT⟩ := hcut
     go_upto_region 18 with (fail)
     obtain ⟨xo, rfl⟩ : ∃ xo : World, xo = wc := ⟨_, rfl⟩
     go_cut [88] (fun b wx => ∃ d : Bool, b = .bool d ∧ Hid (d = !decide (G 257 = [])) ∧ wx = xo)
     case first =>
      by_cases hnb : G 257 = []
      ·have hFb := hT.nil 257 (by decide) hnb
       go_wp2_with (fail)
       go_meet
       exact ⟨false, rfl, Lib.hid (by rw [decide_eq_true hnb]; rfl), rfl⟩
      ·obtain ⟨gb, ccb, hFb, hrowb⟩ := hT.slice (show 257 < 258 by decide) hnb
       go_wp2_with (fail)
       go_meet
       exact ⟨true, rfl, Lib.hid (by rw [decide_eq_false hnb]; rfl), rfl⟩
     obtain ⟨db, rfl, HDb, rfl⟩ := hcut
     go_upto_if 88 with (fail)
     go_cut [5] (fun s5 wx => ∃ (S : Nat → Prop) (rv : Value), Two w wx F G S (.slice none 0 0) (.slice none 0 0) pv1 rv (endsP (l.map plW)) [] [] [] (edgeT (buildP n) (edgeP 1 (l.map plW))) (edgeT (buildP n) (edgeP 2 (l.map plW))))
     case first =>
      by_cases hnb : G 257 = []
      ·have hFb := hT.nil 257 (by decide) hnb
       obtain rfl : db = false := by rw [HDb.out, decide_eq_true hnb]; rfl
       have hplb := HG.out.rest
       have heb : Tr.none = edgeT (buildP n) (edgeP 2 (l.map plW)) := (edgeT_none (by rw [← hplb, hnb]; rfl)).symm
       have HEb := Lib.hid heb
       clear hplb heb
       have HTT := Lib.hid (hT.cast rfl HEb.out)
       clear hT
       go_wp2_with (fail)
       go_meet
       exact ⟨_, _, HTT.out⟩
      ·obtain rfl : db = true := by rw [HDb.out, decide_eq_false hnb]; rfl
       obtain ⟨gb, ccb, hFb, hrowb⟩ := hT.slice (show 257 < 258 by decide) hnb
       have hplb := HG.out.rest
       have hneb : ¬ edgeP 2 (l.map plW) = [] := fun e => hnb (by rw [e] at hplb; simpa using hplb)
       have hmsb := edge_meas 2 (l.map plW)
       have hlenb : 0 < (edgeP 2 (l.map plW)).length := List.length_pos_iff.2 hneb
       have hBb := HIH.out (some ⟨gb, 0, none⟩) ccb (G 257) _ hrowb (hT.ok 257 (by decide)) (by rw [hplb]; exact HWF.out.edge) (by rw [hplb]; have := HM.out; omega) (by rw [hplb]; have := HMM.out; omega) (Nat.le_trans (HLN.out 257) hl) (edge_le (l := l) hplb HEN.out)
       rw [hplb, ← edgeT_some (B := buildP n) hneb] at hBb
       have HBb := Lib.hid hBb
       clear hrowb hplb hneb hmsb hlenb hBb
       go_wp2_with fail
       refine HBb.out.mono ?_
       rintro e wb ⟨vb, rfl, hvb, hbb⟩
       obtain ⟨hTbx, hvbx⟩ := hT.child hbb hvb
       have hclb := hTbx.own.cellAt 3 (by omega)
       have hfzb : wb.frozen? ⟨w.heap.size, 3, none⟩ = false := hTbx.own.frozenAt _
       have hTb := hTbx.setRest hvbx
       clear HBb hbb hvb hTbx hvbx hT
       have HTT := Lib.hid hTb
       clear hTb
       go_wp2_with (fail)
       go_meet
       exact ⟨_, _, HTT.out⟩
     case rest =>
      clear hT
      obtain ⟨S2, rv1, hT⟩ := hcut
      have hTT := hT.cast rfl rfl
      clear hT
      go_wp2
      go_loopw [94] (fun i wx => ∃ (ch : Nat) (S : Nat → Prop) (tv kv pv rv : Value) (tx : List ByteArray) (ts : List (ByteArray × Tr)) (ps : List Value), ch ≤ 256 ∧ i = .int .i64 ch ∧ Two w wx F G S tv kv pv rv (endsP (l.map plW)) tx ts ps (edgeT (buildP n) (edgeP 1 (l.map plW))) (edgeT (buildP n) (edgeP 2 (l.map plW))) ∧ Hid (ts = kidsL (buildP n) (l.map plW) ch) ∧ Hid (tx = ts.map (·.1)) ∧ ts.length ≤ ch) (fun i _ => 256 - (RowKit.intOf i).toNat)
      case atStart => exact ⟨0, _, _, _, _, _, [], [], [], by omega, rfl, hTT, Lib.hid rfl, Lib.hid rfl, Nat.le_refl _⟩
      case round =>
       clear hTT
       obtain ⟨ch, S, tv, kv, pv, rv, tx, ts, ps, hch, rfl, hT, HTS, HTX, htl⟩ := hrel
       by_cases hc2 : ch < 256
       rotate_left
       ·obtain rfl : ch = 256 := by omega
        have HN := Lib.hid (hT.done HTX.out)
        rw [HTS.out] at HN
        have HBW := Lib.hid hT.below
        clear hT
        go_wp2
        go_ret
        exact ⟨some ⟨w.heap.size, 0, none⟩, rfl, HN.out, HBW.out⟩
       obtain ⟨m, hm⟩ := hT.mp
       have hlk := hm.look hc2
       have hwc : IntKind.u8.wrap (ch : Int) = (ch : Int) := IntWalk.u8_in _ (by omega)
       have hpl := HG.out.group ch hc2
       have hci : (ch : Int) < 256 := by omega
       clear hm
       by_cases hng : G ch = []
       ·have hFg := hT.nil ch (by omega) hng
        have HTS2 := Lib.hid (show ts = kidsL (buildP n) (l.map plW) (ch + 1) by rw [kids_step, kid_none (by rw [← hpl, hng]; rfl), List.append_nil]; exact HTS.out)
        have HT2 := Lib.hid hT
        clear hT hpl HTS
        go_wp2
        go_roundw
        case rel => exact ⟨ch + 1, S, tv, kv, pv, rv, tx, ts, ps, by omega, by go_num, HT2.out, HTS2, HTX, by omega⟩
        case measure => simp [RowKit.intOf]; omega
       obtain ⟨g, cc, hFg, hrow⟩ := hT.slice (show ch < 258 by omega) hng
       have hgw := group_wy hpl
       have hge : ¬ groupP ch (l.map plW) = [] := fun e => hng (by rw [e] at hpl; simpa using hpl)
       have hmm := HMM.out
       have hpos := common_pos HWF.out hge
       have hlen : (G ch).length ≤ 4194304 := Nat.le_trans (HLN.out ch) hl
       have hCM := common_any (some ⟨g, 0, none⟩) cc (G ch) wr hrow (hT.ok ch (by omega)) hlen (List.length_pos_iff.2 hng) (fun x hx => (hgw x hx).1) (fun x hx => Nat.le_trans (hgw x hx).2.2.1 hmm)
       rw [hpl] at hCM
       have HCM := Lib.hid hCM
       have HKS := Lib.hid (show kidsL (buildP n) (l.map plW) (ch + 1) = ts ++ [(commonP (groupP ch (l.map plW)), buildP n (cutP (commonP (groupP ch (l.map plW))).size (groupP ch (l.map plW))))] by rw [kids_step, kid_some hge, HTS.out])
       have HCUT := Lib.hid (fun (w' : World) (hr : Row w' (some ⟨g, 0, none⟩) (flatW (G ch))) (ho : WOk w' (G ch)) => cut_any (some ⟨g, 0, none⟩) cc (G ch) (commonP (groupP ch (l.map plW))).size w' hr ho hlen (fun x hx => ⟨(hgw x hx).1, Nat.le_trans (hgw x hx).2.1 hmm, (hgw x hx).2.2.2, Nat.le_trans (hgw x hx).2.2.1 hmm⟩))
       rw [hpl] at HCUT
       have hcm := cut_meas (n := (commonP (groupP ch (l.map plW))).size) (ws := groupP ch (l.map plW)) (fun x hx => by obtain ⟨y, hy, rfl⟩ := List.mem_map.1 (show x ∈ (G ch).map plW by rw [hpl]; exact hx); exact ⟨(hgw y hy).1, (hgw y hy).2.2.2⟩) hpos
       have hgm := group_meas ch (l.map plW)
       have hgl : 0 < (groupP ch (l.map plW)).length := List.length_pos_iff.2 hge
       have hgl2 : (groupP ch (l.map plW)).length = (G ch).length := by rw [← hpl, List.length_map]
       have hmn := HM.out
       have HBLD := Lib.hid (fun (w' : World) (A' : Option Addr) (c' : Nat) (l' : List Wy) (hpl' : l'.map plW = cutP (commonP (groupP ch (l.map plW))).size (groupP ch (l.map plW))) (hr : Row w' A' (flatW l')) (ho : WOk w' l') => by
        have hB := HIH.out A' c' l' w' hr ho (by rw [hpl']; exact HWF.out.group.cut) (by rw [hpl']; omega) (by rw [hpl']; omega) (by have := congrArg List.length hpl'; rw [List.length_map, cut_length, hgl2] at this; omega) (cut_le (l := l) hpl' HEN.out)
        rw [hpl'] at hB
        exact hB)
       have hcz : (commonP (groupP ch (l.map plW))).size ≤ 4194304 := by
        obtain ⟨y, hy⟩ := List.exists_mem_of_length_pos (List.length_pos_iff.2 hng)
        have := hgw y hy
        omega
       have HTL := Lib.hid (show tx.length = ts.length by rw [HTX.out, List.length_map])
       clear hgw hge hmm hpos hCM hcm hgm hgl hgl2 hmn hpl
       generalize hcom : commonP (groupP ch (l.map plW)) = cm at *
       clear hcom
       go_wp2_with fail
       refine HCM.out.mono ?_
       rintro e w1 ⟨rfl, b1⟩
       have hT1 := hT.belowW b1
       have hrow1 := hrow.below b1
       clear hT hrow HCM b1 hlk
       have hc0 := hT1.own.cellAt 0 (by omega)
       obtain ⟨TA, tc, rfl⟩ := own_slice hT1.texts
       have htn : tx.length ≤ 256 := by have := HTL.out; omega
       have hs1 := hT1.size
       go_wp2_with (at_builtin; refine wpList_append_any _ rfl (.tmp 109) (.tmp 111) 33 rfl (w.heap.size + 2) 9 k0 (.string ⟨#[]⟩) 1 16 Tryz.underlying33 hk0 hx0 hx1 hx2 rfl (by decide) _ _ _ rfl (hT1.texts.alloc _) _ (some ⟨w1.heap.size, 0, none⟩) 1 1 [.string cm] rfl (reads_of_row (row_newc w1 _ 9 rfl) rfl (by decide)) ?c1 ?c2 ?c3 ?c4 ?c5)
       case c1 => intro u hu; simp at hu; subst hu; rfl
       case c2 => unfold maxLen; omega
       case c3 => omega
       case c4 => simp; omega
       case c5 =>
        intro tvx w2 hown2 hg2 alt2
        obtain ⟨TB, tb, rfl⟩ := own_slice hown2
        have hTA := hT1.belowW ((Below.refl w1.heap.size w1).alloc (Nat.le_refl _) (.cells #[.string cm] 9))
        have hnode := (hTA.grown hTA.texts (by decide) (by decide) hg2 hTA.offT).2.2.2.1
        have hcn := hnode.cellAt 0 (by omega)
        have hfn : w2.frozen? ⟨w.heap.size, 0, none⟩ = false := hnode.frozenAt _
        have hT3 := hTA.addText (x := cm) hg2 (by simpa using hown2) (by simpa using alt2)
        have hrow3 : Row (w2.setCell ⟨w.heap.size, 0, none⟩ (.slice TB (tx.length + 1) tb)) (some ⟨g, 0, none⟩) (flatW (G ch)) := by
         obtain ⟨g', c', e', hr'⟩ := hT3.slice (show ch < 258 by omega) hng
         rw [hFg] at e'
         injection e' with e'
         injection e' with e'
         injection e' with e'
         subst e'
         exact hr'
        have hok3 := hT3.ok ch (by omega)
        have HPS := Lib.hid (KL.length _ _ hT3.kl)
        have hpsl : ps.length ≤ 256 := by rw [HPS.out]; omega
        obtain ⟨KA, kc, rfl⟩ := own_slice hT3.kids
        have hk3 := hT3.own.cellAt 1 (by omega)
        have hfk3 : (w2.setCell ⟨w.heap.size, 0, none⟩ (.slice TB (tx.length + 1) tb)).frozen? ⟨w.heap.size, 1, none⟩ = false := hT3.own.frozenAt _
        have hs3 := hT3.size
        have HS3 := Lib.hid (fun (w' : World) (h : Below (w2.setCell ⟨w.heap.size, 0, none⟩ (.slice TB (tx.length + 1) tb)).heap.size (w2.setCell ⟨w.heap.size, 0, none⟩ (.slice TB (tx.length + 1) tb)) w') => (⟨(h.cell (p := ⟨w.heap.size, 1, none⟩) (by show w.heap.size < _; omega)).trans hk3, (h.frozen (p := ⟨w.heap.size, 1, none⟩) (by show w.heap.size < _; omega)).trans hfk3⟩ : w'.cell? ⟨w.heap.size, 1, none⟩ = some (.slice KA ps.length kc) ∧ w'.frozen? ⟨w.heap.size, 1, none⟩ = false))
        have HCUT3 := Lib.hid (fun (w' : World) (h : Below (w2.setCell ⟨w.heap.size, 0, none⟩ (.slice TB (tx.length + 1) tb)).heap.size (w2.setCell ⟨w.heap.size, 0, none⟩ (.slice TB (tx.length + 1) tb)) w') => HCUT.out w' (hrow3.below h) (hok3.below h))
        have HT3 := Lib.hid hT3
        clear hT1 hTA hnode hown2 hg2 alt2 hrow1 hrow3 hok3 hk3 hfk3 HCUT hT3 hc0
        go_wp2_with fail
        have hbl0 : w2.heap.size = (w2.setCell ⟨w.heap.size, 0, none⟩ (.slice TB (tx.length + 1) tb)).heap.size := by simp
        generalize hW3 : w2.setCell ⟨w.heap.size, 0, none⟩ (.slice TB (tx.length + 1) tb) = w3 at *
        clear hW3 hbl0
        obtain ⟨hk30, hk31⟩ := HS3.out w3 (Below.refl _ _)
        refine region_T (t := 14) (S := fun w' => w'.cell? ⟨w.heap.size, 1, none⟩ = some (.slice KA ps.length kc)) (by kernel_rfl) hk30 (fun hHeld => ?_)
        refine' anyT_take (i := 0) (v := _) rfl (by kernel_rfl) (by kernel_rfl) (by kernel_rfl) (by kernel_rfl) (by rfl) (fun _ _ _ h => h) (Or.inl ⟨by rfl, ?hy0⟩) hHeld ?rr0
        case hy0 => (intro w hSw; (try dsimp only at hSw); (try simp only [List.getElem_toArray, List.getElem_cons_zero]); go_simp; try (with_reducible rfl))
        (try simp only [List.getElem_toArray, List.getElem_cons_zero, Act.put, List.setIfInBounds_toArray, List.set_cons_zero, List.set_cons_succ])
        refine' anyT_take (i := 1) (v := _) rfl (by kernel_rfl) (by kernel_rfl) (by kernel_rfl) (by kernel_rfl) (by rfl) (fun _ _ _ h => h) (Or.inl ⟨by rfl, ?hy1⟩) hHeld ?rr1
        case hy1 => (intro w hSw; (try dsimp only at hSw); (try simp only [List.getElem_toArray, List.getElem_cons_succ, List.getElem_cons_zero]); go_simp; try (with_reducible rfl))
        (try simp only [List.getElem_toArray, List.getElem_cons_succ, List.getElem_cons_zero, Act.put, List.setIfInBounds_toArray, List.set_cons_zero, List.set_cons_succ])
        refine' anyT_take (i := 2) (v := _) rfl (by kernel_rfl) (by kernel_rfl) (by kernel_rfl) (by kernel_rfl) (by rfl) (fun _ _ _ h => h) (Or.inl ⟨by rfl, ?hy2⟩) hHeld ?rr2
        case hy2 => (intro w hSw; (try dsimp only at hSw); (try simp only [List.getElem_toArray, List.getElem_cons_succ, List.getElem_cons_zero]); go_simp; try (with_reducible rfl))
        (try simp only [List.getElem_toArray, List.getElem_cons_succ, List.getElem_cons_zero, Act.put, List.setIfInBounds_toArray, List.set_cons_zero, List.set_cons_succ])
        refine' anyT_take (i := 3) (v := _) rfl (by kernel_rfl) (by kernel_rfl) (by kernel_rfl) (by kernel_rfl) (by rfl) (fun _ _ _ h => h) (Or.inl ⟨by rfl, ?hy3⟩) hHeld ?rr3
        case hy3 => (intro w hSw; (try dsimp only at hSw); (try simp only [List.getElem_toArray, List.getElem_cons_succ, List.getElem_cons_zero]); go_simp; try (with_reducible rfl))
        (try simp only [List.getElem_toArray, List.getElem_cons_succ, List.getElem_cons_zero, Act.put, List.setIfInBounds_toArray, List.set_cons_zero, List.set_cons_succ])
        refine' anyT_take (i := 4) (v := _) rfl (by kernel_rfl) (by kernel_rfl) (by kernel_rfl) (by kernel_rfl) (by rfl) (fun _ _ _ h => h) (Or.inl ⟨by rfl, ?hy4⟩) hHeld ?rr4
        case hy4 => (intro w hSw; (try dsimp only at hSw); (try simp only [List.getElem_toArray, List.getElem_cons_succ, List.getElem_cons_zero]); go_simp; try (with_reducible rfl))
        (try simp only [List.getElem_toArray, List.getElem_cons_succ, List.getElem_cons_zero, Act.put, List.setIfInBounds_toArray, List.set_cons_zero, List.set_cons_succ])
        refine' anyT_take (i := 5) (v := _) rfl (by kernel_rfl) (by kernel_rfl) (by kernel_rfl) (by kernel_rfl) (by rfl) (fun _ _ _ h => h) (Or.inl ⟨by rfl, ?hy5⟩) hHeld ?rr5
        case hy5 => (intro w hSw; (try dsimp only at hSw); (try simp only [List.getElem_toArray, List.getElem_cons_succ, List.getElem_cons_zero]); go_simp; try (with_reducible rfl))
        (try simp only [List.getElem_toArray, List.getElem_cons_succ, List.getElem_cons_zero, Act.put, List.setIfInBounds_toArray, List.set_cons_zero, List.set_cons_succ])
        refine' anyT_take (i := 6) (v := _) rfl (by kernel_rfl) (by kernel_rfl) (by kernel_rfl) (by kernel_rfl) (by rfl) (fun _ _ _ h => h) (Or.inl ⟨by rfl, ?hy6⟩) hHeld ?rr6
        case hy6 => (intro w hSw; (try dsimp only at hSw); (try simp only [List.getElem_toArray, List.getElem_cons_succ, List.getElem_cons_zero]); go_simp; try (with_reducible rfl))
        (try simp only [List.getElem_toArray, List.getElem_cons_succ, List.getElem_cons_zero, Act.put, List.setIfInBounds_toArray, List.set_cons_zero, List.set_cons_succ])
        refine' anyT_take (i := 7) (v := _) rfl (by kernel_rfl) (by kernel_rfl) (by kernel_rfl) (by kernel_rfl) (by rfl) (fun _ _ _ h => h) (Or.inl ⟨by rfl, ?hy7⟩) hHeld ?rr7
        case hy7 => (intro w hSw; (try dsimp only at hSw); (try simp only [List.getElem_toArray, List.getElem_cons_succ, List.getElem_cons_zero]); go_simp; try (with_reducible rfl))
        (try simp only [List.getElem_toArray, List.getElem_cons_succ, List.getElem_cons_zero, Act.put, List.setIfInBounds_toArray, List.set_cons_zero, List.set_cons_succ])
        refine anyT_ready (rs := [8]) (by kernel_rfl) (by simp) ?_
        refine AllReadyT.cons rfl (fun K hK => ?_) AllReadyT.nil
        go_simp
        go_at_call 151
        refine (HCUT3.out _ (below_drew (Below.refl _ _))).mono ?_
        rintro e w5 ⟨A5, c5, l5, rfl, hpl5, ho5, hok5, hb5⟩
        have hB5 : Below w3.heap.size w3 w5 := (below_drew (Below.refl w3.heap.size w3)).trans (hb5.mono (by simp))
        obtain ⟨hk50, hk51⟩ := HS3.out w5 hB5
        (try go_wp2_with fail)
        refine hK.out _ _ (.inr hk50) (fun _ => ?_)
        clear hK K
        (try simp only [List.getElem_toArray, List.getElem_cons_succ, List.getElem_cons_zero, Act.put, List.setIfInBounds_toArray, List.set_cons_zero, List.set_cons_succ])
        refine anyT_ready (rs := [9]) (by kernel_rfl) (by simp) ?_
        refine AllReadyT.cons rfl (fun K hK => ?_) AllReadyT.nil
        go_simp
        go_at_call 116
        refine (HBLD.out w5 A5 c5 l5 hpl5 (own_row ho5) hok5).mono ?_
        rintro e w6 ⟨q6, rfl, hv6, hb6⟩
        have hB6 : Below w3.heap.size w3 w6 := hB5.trans (hb6.mono hB5.size)
        have hB6a : Below w3.heap.size w3 (w6.alloc (.cells #[.pointer q6] 136)) := hB6.alloc hB6.size _
        obtain ⟨hk60, hk61⟩ := HS3.out w6 hB6
        obtain ⟨hk6a, hk6b⟩ := HS3.out _ hB6a
        (try go_wp2_with fail)
        refine hK.out _ _ (.inr hk60) (fun _ => ?_)
        clear hK K
        (try simp only [List.getElem_toArray, List.getElem_cons_succ, List.getElem_cons_zero, Act.put, List.setIfInBounds_toArray, List.set_cons_zero, List.set_cons_succ])
        refine anyT_ready (rs := [10]) (by kernel_rfl) (by simp) ?_
        refine AllReadyT.cons rfl (fun K hK => ?_) AllReadyT.nil
        go_simp
        refine hK.out _ _ (.inr hk6a) (fun _ => ?_)
        clear hK K
        (try simp only [List.getElem_toArray, List.getElem_cons_succ, List.getElem_cons_zero, Act.put, List.setIfInBounds_toArray, List.set_cons_zero, List.set_cons_succ])
        refine anyT_ready (rs := [11]) (by kernel_rfl) (by simp) ?_
        refine AllReadyT.cons rfl (fun K hK => ?_) AllReadyT.nil
        refine step_append_any _ rfl (.tmp 119) (.tmp 125) 137 rfl (w.heap.size + 2) 136 p0 (.pointer none) 1 8 Tryz.underlying137 hp0 hv0 hv1 hv2 rfl (by decide) _ _ _ (by rfl) ((own_below HT3.out.kids hB6).alloc _) _ (some ⟨w6.heap.size, 0, none⟩) 1 1 [.pointer q6] (by rfl) (reads_of_row (row_newc w6 _ _ rfl) rfl (by decide)) (by intro u hu; simp at hu; subst hu; rfl) (by unfold maxLen; omega) (by omega) (by have := hB6.size; simp; omega) ?_
        intro kvx w7 hown7 hg7 alt7
        obtain ⟨KB, kb, rfl⟩ := own_slice hown7
        obtain ⟨hk70, hk71⟩ : w7.cell? ⟨w.heap.size, 1, none⟩ = some (.slice KA ps.length kc) ∧ w7.frozen? ⟨w.heap.size, 1, none⟩ = false := ⟨(((HT3.out.belowW hB6a).grown (HT3.out.belowW hB6a).kids (by decide) (by decide) hg7 (HT3.out.belowW hB6a).offK).2.2.2.1).cellAt 1 (by omega), (((HT3.out.belowW hB6a).grown (HT3.out.belowW hB6a).kids (by decide) (by decide) hg7 (HT3.out.belowW hB6a).offK).2.2.2.1).frozenAt _⟩
        refine hK.out _ _ (.inr hk70) (fun _ => ?_)
        clear hK K
        (try simp only [List.getElem_toArray, List.getElem_cons_succ, List.getElem_cons_zero, Act.put, List.setIfInBounds_toArray, List.set_cons_zero, List.set_cons_succ])
        refine' anyT_take0 (i := 12) (v := _) rfl (by kernel_rfl) (by kernel_rfl) (by kernel_rfl) (by decide) (fun _ _ _ h => h) (Or.inl ⟨by rfl, ?hy12⟩) hk70 ?rr12
        case hy12 => (intro w hSw; (try dsimp only at hSw); (try simp only [List.getElem_toArray, List.getElem_cons_succ, List.getElem_cons_zero]); go_simp; try (with_reducible rfl))
        (try simp only [List.getElem_toArray, List.getElem_cons_succ, List.getElem_cons_zero, Act.put, List.setIfInBounds_toArray, List.set_cons_zero, List.set_cons_succ])
        refine' anyT_take0 (i := 13) (v := _) rfl (by kernel_rfl) (by kernel_rfl) (by kernel_rfl) (by decide) (fun _ _ _ h => h) (Or.inl ⟨by rfl, ?hy13⟩) hk70 ?rr13
        case hy13 => (intro w hSw; (try dsimp only at hSw); (try simp only [List.getElem_toArray, List.getElem_cons_succ, List.getElem_cons_zero]); go_simp; try (with_reducible rfl))
        (try simp only [List.getElem_toArray, List.getElem_cons_succ, List.getElem_cons_zero, Act.put, List.setIfInBounds_toArray, List.set_cons_zero, List.set_cons_succ])
        refine anyT_ready (rs := [14]) (by kernel_rfl) (by simp) ?_
        refine AllReadyT.cons rfl (fun K hK => ?_) AllReadyT.nil
        go_simp
        refine hK.out _ _ (.inl (by rfl)) (fun _ => ?_)
        clear hK K
        (try simp only [List.getElem_toArray, List.getElem_cons_succ, List.getElem_cons_zero, Act.put, List.setIfInBounds_toArray, List.set_cons_zero, List.set_cons_succ])
        refine anyT_done (by kernel_rfl) ?_ _
        have T6 := (HT3.out.belowW hB5).child hb6 hv6
        have hba := (Below.refl w6.heap.size w6).alloc (Nat.le_refl _) (.cells #[.pointer q6] 136)
        have T7 := Lib.hid ((T6.1.belowW hba).addKid (x := (cm, buildP n (cutP cm.size (groupP ch (l.map plW))))) ((At.hold (Hold.of_below hba) _).1 _ T6.2) hg7 hown7 alt7)
        have HT4 := Lib.hid (show tx ++ [cm] = (ts ++ [(cm, buildP n (cutP cm.size (groupP ch (l.map plW))))]).map (·.1) by rw [HTX.out, List.map_append]; rfl)
        clear T6 hba hg7 hown7 alt7 HT3 HBLD HCUT3 HS3 hk70 hk71 hk60 hk61 hk6a hk6b hk50 hk51 hk30 hk31 hHeld hv6 hb6 ho5 hok5 hb5 hB5 hB6 hB6a
        go_wp2
        go_roundw
        case rel => exact ⟨ch + 1, _, _, _, pv, rv, tx ++ [cm], ts ++ [(cm, buildP n (cutP cm.size (groupP ch (l.map plW))))], ps ++ [.pointer q6], by omega, by go_num, T7.out, Lib.hid HKS.out.symm, HT4, by rw [List.length_append]; simp; omega⟩
        case measure => simp [RowKit.intOf]; omega
theorem build_any : ∀ n : Nat, BuildOk n
 | 0 => fun _ _ _ _ _ _ _ h _ _ _ => by omega
 | n + 1 => fun A c l w h1 h2 h3 h4 h5 h6 h7 => build_step n (build_any n) A c l w h1 h2 h3 h4 h5 h6 h7
end Go.Proofs.YtiohmnhbmmhnhaaGreatDoor
