/-
  The walk of FieldMemory.
-/
import Derived.Test.YtamagbdkcfmfmaaDoorMemo
import Derived.Test.YtamagbdkcfmfmaaDoorLawBack
import Derived.Deep.RegionHeld3
import Derived.Deep.RegionWith
import Derived.IntWalk
namespace Go.Proofs.YtamagbdkcfmfmaaDoor
open Go.RowKit Go.Shelf Go.Lib

set_option maxRecDepth 100000 in
set_option maxHeartbeats 16000000 in
theorem FieldMemory_walk (A : Option Addr) (c : Nat) (l : List Fl) (name value : ByteArray) (w : World) (hr : Row w A (flat l)) (_hl : l.length ≤ 4398046511102) (_hw : Wide l) (hn : name.size ≤ maxLen) (hv : value.size ≤ maxLen) (hk : bulkF l + name.size + value.size ≤ 1048576) (hg : Glob w) :
    Calls Tryd.prog 16 #[.slice A l.length c, .string name, .string value] w fun e w' => e = .returned (.bool true) ∧ Below w.heap.size w w' := by
  obtain ⟨i0, hi0, hz0, hz1, hz2⟩ := info_parts info_field
  obtain ⟨j0, hj0, hy0, hy1, hy2⟩ := info_parts info_fields
  have hkb : bulkF l ≤ 1048576 := by omega
  have hbl := bulk_len l
  have hwl := bulk_wide hkb
  have HA := Lib.hid (fun A c w hr hg => Add_any A c l name value w hr (by omega) hn hv hg)
  have HS := Lib.hid (fun A c w hr hg => Set_any A c l name value w hr (by omega) hwl hn hv hg)
  have HM := Lib.hid (fun A c w hr => Remove_any A c l name w hr (by omega) hwl hn)
  have HRM := Lib.hid (fun A c w hr => rRemove_any A c l name w hr (by omega) hwl hn)
  have HO := Lib.hid (fun A c w hr hg => Onward_any A c l w hr hkb hg)
  have HPR := Lib.hid (fun A c w hr => rPrint_any A c l w hr (by omega) hwl)
  have hps := printAll_size l
  have la := wrong_len_add l name value
  have ls := setL_len l name value
  have lm := removeL_len l name
  have lo := onwR_len l (tokR (listR (allV l ⟨#[67, 111, 110, 110, 101, 99, 116, 105, 111, 110]⟩))).1
  generalize addL l name value = ra at *
  generalize setL l name value = rs at *
  generalize removeL l name = rm at *
  generalize onwR l (tokR (listR (allV l ⟨#[67, 111, 110, 110, 101, 99, 116, 105, 111, 110]⟩))).1 = ro at *
  generalize printAll l = rp at *
  obtain ⟨al, ae⟩ := ra
  obtain ⟨sl, se⟩ := rs
  obtain ⟨text, pe⟩ := rp
  simp only at la ls hps
  have HPA := Lib.hid (fun w hg => Parse_any text w (by omega) hg)
  have lp := parseGo_len text text.size 0 [] (by simp)
  change (parseAll text).1.length ≤ 100 at lp
  generalize parseAll text = rq at *
  obtain ⟨pl, pp, pq⟩ := rq
  simp only at lp
  go_enter Tryd.func16, Tryd.ntmps16
  go_wp2_with fail
  refine (awake_any w hg).mono ?_
  rintro e w1 ⟨rfl, hb1⟩
  have hr1 := hr.below hb1
  have hg1 := hg.beyond hb1
  go_wp2_with fail
  refine (wide_any A c l w1 hr1 (by omega)).mono ?_
  rintro e w2 ⟨I, ci, rfl, hown2, hb2⟩
  have hi2 := own_row hown2
  have hr2 := hr1.below hb2
  have hg2 := hg1.beyond hb2
  have hbw2 := hb1.trans (hb2.mono hb1.size)
  clear hown2 hr1 hg1 hb1 hb2
  go_wp2_with fail
  refine (plain_any A c l w2 hr2 (by omega)).mono ?_
  rintro e w3 ⟨P, cp, rfl, hown3, hb3⟩
  have hp3 := own_row hown3
  have hi3 := hi2.below hb3
  have hr3 := hr2.below hb3
  have hg3 := hg2.beyond hb3
  have hbw3 := hbw2.trans (hb3.mono hbw2.size)
  clear hown3 hr2 hg2 hi2 hbw2 hb3
  go_wp2_with fail
  refine (HPR.out P cp w3 hp3).mono ?_
  rintro e w4 ⟨rfl, hb4⟩
  have hi4 := hi3.below hb4
  have hr4 := hr3.below hb4
  have hg4 := hg3.beyond hb4
  have hbw4 := hbw3.trans (hb4.mono hbw3.size)
  clear hr3 hg3 hi3 hbw3 hb4 hp3
  go_wp2
  go_loopw [10, 37] (fun v i wr => ∃ (k : Nat) (ps : List (Value × List Fl)), k ≤ 2 ∧ i = .int .i64 k ∧ Tab wr w4.heap.size v (ps.map (·.1)) ps ∧ ps.length = 5 * k ∧ (∀ p ∈ ps, p.2.length ≤ 2000000) ∧ Below w4.heap.size w4 wr) (fun _ i _ => 2 - (RowKit.intOf i).toNat)
  case atStart => exact ⟨0, [], by omega, rfl, Tab.start _ _, rfl, fun p hp => by (cases hp), Below.refl _ _⟩
  case round =>
    obtain ⟨k, ps, hkk, rfl, hT, hlen, hsz, hbr⟩ := hrel
    have HLEN := Lib.hid hlen
    have HSZ := Lib.hid hsz
    have hpl : ps.length ≤ 10 := by omega
    clear hlen hsz
    by_cases hlt : k < 2
    · have hir := hi4.below hbr
      have hgr := hg4.beyond hbr
      go_wp2_with fail
      refine (HA.out I ci wr hir hgr).mono ?_
      rintro e x1 ⟨X1, d1, rfl, o1, b1⟩
      have T1 := hT.pend b1 (fs := al) o1 hbr.size
      have i1 := hir.below b1
      have g1 := hgr.beyond b1
      have B1 := hbr.trans (b1.mono hbr.size)
      clear hT o1 b1 hir hgr hbr
      go_wp2_with fail
      refine (HS.out I ci x1 i1 g1).mono ?_
      rintro e x2 ⟨X2, d2, rfl, o2, b2⟩
      have T2 := T1.pend b2 (fs := sl) o2 B1.size
      have i2 := i1.below b2
      have g2 := g1.beyond b2
      have B2 := B1.trans (b2.mono B1.size)
      clear T1 o2 b2 i1 g1 B1
      go_wp2_with fail
      refine (HPA.out x2 g2).mono ?_
      rintro e x3 ⟨X3, d3, rfl, o3, b3⟩
      have T3 := T2.pend b3 (fs := pl) o3 B2.size
      have i3 := i2.below b3
      have g3 := g2.beyond b3
      have B3 := B2.trans (b3.mono B2.size)
      clear T2 o3 b3 i2 g2 B2
      go_wp2_with fail
      refine (HM.out I ci x3 i3).mono ?_
      rintro e x4 ⟨X4, d4, rfl, o4, b4⟩
      have T4 := T3.pend b4 (fs := rm) o4 B3.size
      have i4 := i3.below b4
      have g4 := g3.beyond b4
      have B4 := B3.trans (b4.mono B3.size)
      clear T3 o4 b4 i3 g3 B3
      go_wp2_with fail
      refine (HO.out I ci x4 i4 g4).mono ?_
      rintro e x5 ⟨X5, d5, rfl, o5, b5⟩
      have T5 := T4.pend b5 (fs := ro) o5 B4.size
      have B5 := B4.trans (b5.mono B4.size)
      clear T4 o5 b5 i4 g4 B4
      have TA := T5.alloc (.cells #[.slice X1 al.length d1, .slice X2 sl.length d2, .slice X3 pl.length d3, .slice X4 rm.length d4, .slice X5 ro.length d5] 33)
      go_wp2_with (at_builtin; refine wpList_append_any _ rfl (.tmp 59) (.tmp 68) 98 rfl w4.heap.size 33 j0 (.slice none 0 0) 1 24 Tryd.underlying98 hj0 hy0 hy1 hy2 rfl (by decide) _ _ _ rfl TA.own _ (some ⟨x5.heap.size, 0, none⟩) 5 5 [.slice X1 al.length d1, .slice X2 sl.length d2, .slice X3 pl.length d3, .slice X4 rm.length d4, .slice X5 ro.length d5] rfl (reads_of_row (row_newc x5 _ 33 rfl) rfl (by decide)) ?c1 ?c2 ?c3 ?c4 ?c5)
      case c1 =>
        intro u hu
        simp at hu
        rcases hu with rfl | rfl | rfl | rfl | rfl <;> rfl
      case c2 => unfold maxLen; simp; omega
      case c3 => simp; omega
      case c4 => simp; have := B5.size; omega
      case c5 =>
        intro v' w6 hown6 hg6 hat6
        have B6 : Below w4.heap.size w4 w6 := (B5.alloc B5.size _).grown hg6 (by simp; have := B5.size; omega) (own_lt TA.own)
        have T6 := TA.grow hg6 (vals' := (ps ++ [(Value.slice X1 al.length d1, al)] ++ [(Value.slice X2 sl.length d2, sl)] ++ [(Value.slice X3 pl.length d3, pl)] ++ [(Value.slice X4 rm.length d4, rm)] ++ [(Value.slice X5 ro.length d5, ro)]).map (·.1)) (by simpa using hown6) (by simpa using hat6)
        clear TA T5 hown6 hg6 hat6 B5
        have HT6 := Lib.hid T6
        clear T6
        go_wp2
        go_roundw
        case rel => exact ⟨k + 1, _, by omega, by go_num, HT6.out, by have := HLEN.out; simp; omega, fun p hp => by
          simp at hp
          rcases hp with hp | rfl | rfl | rfl | rfl | rfl
          · exact HSZ.out p hp
          · simp only; omega
          · simp only; omega
          · simp only; omega
          · simp only; omega
          · simp only; omega, B6⟩
        case measure => simp [RowKit.intOf]; omega
    · have hk2 : ¬ (k : Int) < 2 := by omega
      have hlen10 : ps.length = 10 := by have := HLEN.out; omega
      obtain ⟨x9, rfl⟩ : ∃ x9 : World, x9 = wr := ⟨_, rfl⟩
      have hTwo : Two value (ps.map (·.1)) ps 0 := ⟨hlen10, rfl, HSZ.out, fun a p h _ => by omega⟩
      have hvl : (ps.map (·.1)).length = 10 := by simp [hlen10]
      clear HLEN HSZ hpl hlen10
      obtain ⟨k1, rfl⟩ : ∃ k1 : Nat, k1 = k := ⟨_, rfl⟩
      generalize ps.map (·.1) = vals at *
      have HVL := Lib.hid hvl
      obtain ⟨V, cV, rfl⟩ := own_slice hT.own
      rw [hvl] at hT ⊢
      clear hvl
      go_wp2
      go_loopw [73] (fun i wr => ∃ (k : Nat) (ps : List (Value × List Fl)), k ≤ 10 ∧ i = .int .i64 k ∧ Tab wr w4.heap.size (.slice V 10 cV) vals ps ∧ Two value vals ps k ∧ Below w4.heap.size w4 wr) (fun i _ => 10 - (RowKit.intOf i).toNat)
      case atStart => exact ⟨0, ps, by omega, rfl, hT, hTwo, hbr⟩
      case round =>
        clear hT hTwo hbr hlt hkk hk2
        obtain ⟨k, ps, hkk, rfl, hT, hTwo, hbr⟩ := hrel
        by_cases hlt : k < 10
        · have hd10 : decide ((k : Int) < 10) = true := decide_eq_true (by omega)
          obtain ⟨u, fs, hp, hvu, hfl⟩ := hTwo.at_ hlt
          obtain ⟨bv, ov, hVa, hbv, hcv⟩ := (own_row (by have h := hT.own; rw [HVL.out] at h; exact h)).at_ hvu
          have hcell := hcv k _ hvu
          obtain ⟨U, cU, rfl⟩ := own_slice (hT.at_ hp)
          have HP := Lib.hid hp
          subst hVa
          clear hp hvu hcv
          obtain ⟨xo, rfl⟩ : ∃ xo : World, xo = wr := ⟨_, rfl⟩
          go_wp2
          go_loopw [80] (fun i wr => ∃ (j : Nat) (fs' : List Fl), j ≤ fs.length ∧ i = .int .i64 j ∧ Tab wr w4.heap.size (.slice (some ⟨bv, ov, none⟩) 10 cV) vals (ps.set k (.slice U fs.length cU, fs')) ∧ Mid value k fs.length j fs' ∧ Below w4.heap.size w4 wr) (fun i _ => fs.length - (RowKit.intOf i).toNat)
          case atStart => exact ⟨0, fs, by omega, rfl, by rw [set_same HP.out]; exact hT, Mid.zero rfl, hbr⟩
          case round =>
            clear hT hbr
            obtain ⟨j, fs', hjj, rfl, hT, hMid, hbr⟩ := hrel
            by_cases hjt : j < fs.length
            · have HMS := Lib.hid (hMid.succ hjt)
              have HML := Lib.hid hMid.len
              have HMT := Lib.hid hMid
              clear hMid
              have hown0 := hT.at_ (set_at HP.out)
              rw [HML.out] at hown0
              obtain ⟨g, rfl, hgb, hgl⟩ := own_some hown0 (by omega)
              obtain ⟨⟨x, y⟩, hxy⟩ := some_of_lt (show j < fs'.length by have := HML.out; omega)
              have HFG := Lib.hid (flat_get hxy)
              have HFS := Lib.hid (flat_set fs' j (markF value k) (lt_of_some hxy))
              clear hxy hown0
              go_wp2_with fail
              refine (rCanon_any (Utf8.encode (97 + (k : Int))) wr (Nat.le_trans (enc_size hlt) (by decide))).mono ?_
              rintro e w6 ⟨rfl, hb6⟩
              obtain ⟨cv, hcvv, hcz⟩ := mark_at hlt
              rw [show canon (Utf8.encode (97 + (k : Int))) = cv from hcvv.symm]
              have HCV := Lib.hid (markF_eq (value := value) hcvv)
              clear hcvv
              have T6 := hT.below hb6
              have hown6 := T6.at_ (set_at HP.out)
              rw [HML.out] at hown6
              have hbr6 := hbr.trans (hb6.mono hbr.size)
              have hgl6 : g < w6.heap.size := Nat.lt_of_lt_of_le hgl hb6.size
              clear hT hbr hb6 hgl
              obtain ⟨hs1, hs2⟩ := hown6.stored (j * 2) (.string ⟨#[109, 97, 114, 107]⟩)
              obtain ⟨hs3, hs4⟩ := hs1.stored (j * 2 + 1) (.string (cv ++ value))
              have hf0 : w6.frozen? ⟨g, j * 2, none⟩ = false := hown6.frozenAt _
              have hf1 : (w6.setCell ⟨g, j * 2, none⟩ (.string ⟨#[109, 97, 114, 107]⟩)).frozen? ⟨g, j * 2 + 1, none⟩ = false := hs1.frozenAt _
              have hc0 : w6.cell? ⟨g, j * 2, none⟩ = some (.string x) := by rw [hown6.cellAt _ (by omega)]; exact HFG.out.1
              have hc2 : (w6.setCell ⟨g, j * 2, none⟩ (.string ⟨#[109, 97, 114, 107]⟩)).cell? ⟨g, j * 2 + 1, none⟩ = some (.string y) := by
                rw [hs1.cellAt _ (by omega), List.getElem?_set_ne (by omega)]; exact HFG.out.2
              have hon : Only g w6 ((w6.setCell ⟨g, j * 2, none⟩ (.string ⟨#[109, 97, 114, 107]⟩)).setCell ⟨g, j * 2 + 1, none⟩ (.string (cv ++ value))) := (show Only g w6 (w6.setCell ⟨g, j * 2, none⟩ (.string ⟨#[109, 97, 114, 107]⟩)) from hs2).only hs4
              have hbn := hbr6.grown hon hbr6.size (fun k hk => by injection hk with hk; omega)
              have hfl2 : ((flat fs').set (j * 2) (.string ⟨#[109, 97, 114, 107]⟩)).set (j * 2 + 1) (.string (cv ++ value)) = flat (fs'.set j (markF value k)) := by have h := HFS.out; rw [HCV.out] at h ⊢; exact h
              have hls : (fs'.set j (markF value k)).length = fs.length := HMS.out.len
              rw [hfl2] at hs3
              have T7 := T6.turn (set_at HP.out) (w' := (w6.setCell ⟨g, j * 2, none⟩ (.string ⟨#[109, 97, 114, 107]⟩)).setCell ⟨g, j * 2 + 1, none⟩ (.string (cv ++ value))) (u' := .slice (some ⟨g, 0, none⟩) fs.length cU) (fs' := fs'.set j (markF value k)) hon (by rw [hls]; exact hs3) (.inl rfl)
              rw [List.set_set] at T7
              have HT7 := Lib.hid T7
              have HB7 := Lib.hid hbn
              clear T7 hbn hls hfl2 hon hs1 hs2 hs3 hs4 T6 hown6
              go_wp2
              go_roundw
              case rel => exact ⟨j + 1, _, by omega, by go_num, HT7.out, HMS.out, HB7.out⟩
              case measure => simp [RowKit.intOf]; omega
            · obtain rfl : j = fs.length := by omega
              have HTW := Lib.hid (hTwo.set HP.out rfl hMid)
              clear hMid
              go_wp2
              go_roundw
              case rel => exact ⟨k + 1, _, by omega, by go_num, hT, HTW.out, hbr⟩
              case measure => simp [RowKit.intOf]; omega
        · have hk10 : ¬ (k : Int) < 10 := by omega
          have hTw : Two value vals ps 10 := by
            have e : k = 10 := by omega
            rw [← e]; exact hTwo
          obtain ⟨k2, rfl⟩ : ∃ k2 : Nat, k2 = k := ⟨_, rfl⟩
          obtain ⟨x10, rfl⟩ : ∃ x10 : World, x10 = wr := ⟨_, rfl⟩
          have hbase := hbr.size
          obtain ⟨gV, rfl, hgVb, hgVl⟩ := own_some (show x10.ownsRow w4.heap.size 33 1 (.slice V 10 cV) 10 vals by have h := hT.own; rw [HVL.out] at h; exact h) (by omega)
          have hThr := hTw.thr
          clear hTw hTwo hbase hlt hkk
          go_wp2
          go_loopw [98] (fun i wr => ∃ (k : Nat) (ps : List (Value × List Fl)) (vals : List Value), k ≤ 10 ∧ i = .int .i64 k ∧ Tab wr w4.heap.size (.slice (some ⟨gV, 0, none⟩) 10 cV) vals ps ∧ Thr value vals ps k ∧ vals.length = 10 ∧ Below w4.heap.size w4 wr) (fun i _ => 10 - (RowKit.intOf i).toNat)
          case atStart => exact ⟨0, ps, vals, by omega, rfl, hT, hThr, HVL.out, hbr⟩
          case round =>
            clear hT hThr hbr hk10 hgVl HVL
            obtain ⟨k, ps, vals, hkk, rfl, hT, hThr, hvl, hbr⟩ := hrel
            have HVL := Lib.hid hvl
            clear hvl
            by_cases hlt : k < 10
            · have hd10 : decide ((k : Int) < 10) = true := decide_eq_true (by omega)
              obtain ⟨u, fs, hp, hvu⟩ := hThr.at_ hlt
              have hownV : wr.ownsRow w4.heap.size 33 1 (.slice (some ⟨gV, 0, none⟩) 10 cV) 10 vals := by have h := hT.own; rw [HVL.out] at h; exact h
              have hcell : wr.cell? ⟨gV, k, none⟩ = some u := (hownV.cellAt k (by omega)).trans hvu
              obtain ⟨n, hn2, hfs⟩ := hThr.todo k _ (Nat.le_refl _) hp
              obtain ⟨U, cU, rfl⟩ := own_slice (hT.at_ hp)
              have HP := Lib.hid hp
              have HFS := Lib.hid (show fs = List.replicate n (markF value k) ++ List.replicate 0 grownF by rw [show fs = List.replicate n (markF value k) from hfs]; simp)
              clear hp hvu hfs hownV
              obtain ⟨xo, rfl⟩ : ∃ xo : World, xo = wr := ⟨_, rfl⟩
              go_wp2
              go_loopw [22, 103] (fun v i wr => ∃ cc : Nat, cc ≤ 9 ∧ i = .int .i64 cc ∧ Tab wr w4.heap.size (.slice (some ⟨gV, 0, none⟩) 10 cV) vals (ps.set k (v, List.replicate n (markF value k) ++ List.replicate cc grownF)) ∧ Below w4.heap.size w4 wr) (fun _ i _ => 9 - (RowKit.intOf i).toNat)
              case atStart => exact ⟨0, by omega, rfl, by rw [← HFS.out, set_same HP.out]; exact hT, hbr⟩
              case round =>
                clear hT hbr
                obtain ⟨cc, hcc, rfl, hT, hbr⟩ := hrel
                have hown := hT.at_ (set_at HP.out)
                obtain ⟨U', cU', rfl⟩ := own_slice hown
                by_cases hct : cc < 9
                · have TA := hT.alloc (.cells #[.string ⟨#[103, 114, 111, 119, 110]⟩, .string ⟨#[]⟩] 24)
                  have hlen : (List.replicate n (markF value k) ++ List.replicate cc grownF).length ≤ 2000009 := by simp; omega
                  have HSN := Lib.hid (show (List.replicate n (markF value k) ++ List.replicate cc grownF) ++ [grownF] = List.replicate n (markF value k) ++ List.replicate (cc + 1) grownF by rw [List.append_assoc, rep_snoc])
                  generalize List.replicate n (markF value k) ++ List.replicate cc grownF = gs at *
                  have hownA := TA.at_ (set_at HP.out)
                  go_wp2_with (at_builtin; refine wpList_append_any _ rfl (.tmp 105) (.tmp 107) 33 rfl w4.heap.size 24 i0 (.agg #[.string ⟨#[]⟩, .string ⟨#[]⟩]) 2 32 Tryd.underlying33 hi0 hz0 hz1 hz2 rfl (by decide) _ _ _ rfl hownA _ (some ⟨wr.heap.size, 0, none⟩) 1 1 (flat [grownF]) rfl (reads_of_row (row_new2 wr ⟨#[103, 114, 111, 119, 110]⟩ ⟨#[]⟩ 24 rfl) rfl (by decide)) ?d1 ?d2 ?d3 ?d4 ?d5)
                  case d1 => exact flat_oneCell [grownF]
                  case d2 => unfold maxLen; omega
                  case d3 => omega
                  case d4 => simp; have := hbr.size; omega
                  case d5 =>
                    intro v' w6 hown6 hg6 hat6
                    have hb6 : Below w4.heap.size w4 w6 := (hbr.alloc hbr.size _).grown hg6 (by simp; have := hbr.size; omega) (own_lt hownA)
                    have T6 := TA.turn (set_at HP.out) hg6 (u' := v') (fs' := gs ++ [grownF]) (by rw [List.length_append, ← flat_snocG]; exact hown6) (hat6.imp id (fun h => by rw [h]; simp))
                    rw [List.set_set, HSN.out] at T6
                    have HT6 := Lib.hid T6
                    clear T6 TA hown hownA hown6 hg6 hat6 hT
                    go_wp2
                    go_roundw
                    case rel => exact ⟨cc + 1, by omega, by go_num, HT6.out, hb6⟩
                    case measure => simp [RowKit.intOf]; omega
                · have e9 : cc = 9 := by omega
                  have HE9 := Lib.hid e9
                  clear e9
                  have hownV : wr.ownsRow w4.heap.size 33 1 (.slice (some ⟨gV, 0, none⟩) 10 cV) 10 vals := by have h := hT.own; rw [HVL.out] at h; exact h
                  obtain ⟨old, hold⟩ := some_of_lt (show k < vals.length by rw [HVL.out]; exact hlt)
                  have hcV : wr.cell? ⟨gV, k, none⟩ = some old := (hownV.cellAt k (by omega)).trans hold
                  have hfV : wr.frozen? ⟨gV, k, none⟩ = false := hownV.frozenAt _
                  obtain ⟨hs1, hs2⟩ := hownV.stored k (.slice U' (List.replicate n (markF value k) ++ List.replicate cc grownF).length cU')
                  have hvl2 : (vals.set k (.slice U' (List.replicate n (markF value k) ++ List.replicate cc grownF).length cU')).length = 10 := by rw [List.length_set]; exact HVL.out
                  have T8 := hT.grow (w' := wr.setCell ⟨gV, k, none⟩ (.slice U' (List.replicate n (markF value k) ++ List.replicate cc grownF).length cU')) hs2 (vals' := vals.set k (.slice U' (List.replicate n (markF value k) ++ List.replicate cc grownF).length cU')) (by rw [hvl2]; exact hs1) (.inl rfl)
                  have hb8 := hbr.grown hs2 hbr.size (fun k hk => by injection hk with hk; omega)
                  have HTH := Lib.hid (hThr.succ hlt hn2 (.slice U' (List.replicate n (markF value k) ++ List.replicate cc grownF).length cU'))
                  have HT8 := Lib.hid T8
                  have HB8 := Lib.hid hb8
                  have HV8 := Lib.hid hvl2
                  clear T8 hb8 hvl2 hs1 hs2 hold hownV hown hT
                  generalize (List.replicate n (markF value k) ++ List.replicate cc grownF).length = ll at *
                  go_wp2
                  go_roundw
                  case rel => exact ⟨k + 1, _, _, by omega, by go_num, HT8.out, by have h := HTH.out; rw [HE9.out]; exact h, HV8.out, HB8.out⟩
                  case measure => simp [RowKit.intOf]; omega
            · have hk11 : ¬ (k : Int) < 10 := by omega
              have hTh : Thr value vals ps 10 := by
                have e : k = 10 := by omega
                rw [← e]; exact hThr
              obtain ⟨k3, rfl⟩ : ∃ k3 : Nat, k3 = k := ⟨_, rfl⟩
              obtain ⟨x11, rfl⟩ : ∃ x11 : World, x11 = wr := ⟨_, rfl⟩
              have hV11 : x11.ownsRow w4.heap.size 33 1 (.slice (some ⟨gV, 0, none⟩) 10 cV) 10 vals := by have h := hT.own; rw [HVL.out] at h; exact h
              have hrV := own_row hV11
              clear hThr hkk hlt hV11
              go_wp2
              go_loopw [117] (fun i wr => ∃ k : Nat, k ≤ 10 ∧ i = .int .i64 k ∧ Below x11.heap.size x11 wr) (fun i _ => 10 - (RowKit.intOf i).toNat)
              case atStart => exact ⟨0, by omega, rfl, Below.refl _ _⟩
              case round =>
                clear hk11
                obtain ⟨k, hkk, rfl, hb11⟩ := hrel
                by_cases hlt : k < 10
                · have hd10 : decide ((k : Int) < 10) = true := decide_eq_true (by omega)
                  obtain ⟨u, fs, hp, hvu⟩ := hTh.at_ hlt
                  obtain ⟨bz, oz, hA0, hbz, hcz⟩ := (hrV.below hb11).at_ hvu
                  injection hA0 with hA0
                  injection hA0 with hA1 hA2
                  subst hA1 hA2
                  have hcell := hcz k _ hvu
                  rw [Nat.zero_add] at hcell
                  obtain ⟨n, hn2, hfs⟩ := hTh.done k _ hlt hp
                  replace hfs : fs = List.replicate n (markF value k) ++ List.replicate 9 grownF := hfs
                  have hown := hT.at_ hp
                  obtain ⟨U, cU, rfl⟩ := own_slice hown
                  have hrU := own_row hown
                  have hfl : fs.length = n + 9 := by rw [hfs]; simp
                  have hfl1 : fs.length ≤ n + 9 := by omega
                  have hfl2 : n + 9 ≤ fs.length := by omega
                  have HFS := Lib.hid hfs
                  clear hp hvu hcz hfs hown hfl
                  obtain ⟨xo, rfl⟩ : ∃ xo : World, xo = wr := ⟨_, rfl⟩
                  go_wp2
                  go_loopw [124] (fun i wr => ∃ j : Nat, j ≤ fs.length ∧ i = .int .i64 j ∧ Below x11.heap.size x11 wr) (fun i _ => fs.length - (RowKit.intOf i).toNat)
                  case atStart => exact ⟨0, by omega, rfl, hb11⟩
                  case round =>
                    clear hb11
                    obtain ⟨j, hjj, rfl, hb12⟩ := hrel
                    by_cases hjt : j < fs.length
                    · obtain ⟨⟨x, y⟩, hxy⟩ := some_of_lt hjt
                      obtain ⟨bu, ou, rfl, hbu, h0, h1⟩ := (hrU.below hb12).pair hxy
                      have hsub : IntKind.i64.wrap ((fs.length : Int) - 9) = (fs.length : Int) - 9 := IntWalk.i64_in _ (by omega)
                      have hadd : IntKind.i64.wrap (97 + (k : Int)) = 97 + (k : Int) := IntWalk.i64_in _ (by omega)
                      obtain ⟨cv, hcvv, hcvz⟩ := mark_at hlt
                      have HCV := Lib.hid (markF_eq (value := value) hcvv)
                      have HCVV := Lib.hid hcvv
                      clear hcvv
                      rw [HFS.out] at hxy
                      rcases rep_at hxy with ⟨hjn, hm⟩ | ⟨hjn, hm⟩
                      · rw [HCV.out] at hm
                        injection hm with hm1 hm2
                        subst hm1 hm2
                        have hlo : decide ((j : Int) < (fs.length : Int) - 9) = true := decide_eq_true (by omega)
                        have hge : decide ((fs.length : Int) - 9 ≤ (j : Int)) = false := decide_eq_false (by omega)
                        unfold markT at h0
                        have HSB := Lib.hid (show ∀ w', Below (wr.heap.size + 1) (wr.alloc (.cells #[.string ⟨#[109, 97, 114, 107]⟩, .string (cv ++ value)] 24)) w' → Below (wr.heap.size + 1) (wr.alloc (.cells #[.string ⟨#[109, 97, 114, 107]⟩, .string (cv ++ value)] 24)) w' ∧ w'.cell? ⟨wr.heap.size, 0, none⟩ = some (.string ⟨#[109, 97, 114, 107]⟩) ∧ w'.cell? ⟨wr.heap.size, 1, none⟩ = some (.string (cv ++ value)) from fun w' hb => ⟨hb, (box2 hb).1.1, (box2 hb).1.2⟩)
                        have hvz : value.size ≤ 1048576 := by omega
                        have hno : ¬ 9223372036854775807 < cv.size + value.size := by omega
                        have hcnv := conv_enc k
                        have h32 : IntKind.i32.wrap (97 + (k : Int)) = 97 + (k : Int) := IntWalk.i32_in _ (by omega)
                        clear hxy
                        go_wp2_with fail
                        clear HA HS HM HRM HO HPR HPA hi0 hz0 hz1 hz2 hj0 hy0 hy1 hy2 hTh hT hrV HFS HCV hr hg hg4 hi4 hr4 hwl hbl hkb la ls lm lo lp hps hbr hrU hcell hn hv _hw h0 h1
                        refine wp_region_held_drew (S := fun w' => Below (wr.heap.size + 1) (wr.alloc (.cells #[.string ⟨#[109, 97, 114, 107]⟩, .string (cv ++ value)] 24)) w' ∧ w'.cell? ⟨wr.heap.size, 0, none⟩ = some (.string ⟨#[109, 97, 114, 107]⟩) ∧ w'.cell? ⟨wr.heap.size, 1, none⟩ = some (.string (cv ++ value))) (by kernel_rfl) (HSB.out _ (Below.drew (Below.refl _ _))) (fun hHeld => ?_)
                        refine' wpAnyH_take (i := 0) (v := _) rfl (by kernel_rfl) (by kernel_rfl) (by kernel_rfl) (fun _ _ _ h => h) (Or.inl ⟨by rfl, ?hy0⟩) hHeld ?rr0
                        case hy0 => (intro w hSw; (try dsimp only at hSw); obtain ⟨_, hSa, hSb⟩ := hSw; (try simp only [List.getElem_toArray, List.getElem_cons_zero]); go_simp; try (with_reducible rfl))
                        (try simp only [List.getElem_toArray, List.getElem_cons_succ, List.getElem_cons_zero, Act.put, List.setIfInBounds_toArray, List.set_cons_zero, List.set_cons_succ])
                        refine' wpAnyH_take (i := 1) (v := _) rfl (by kernel_rfl) (by kernel_rfl) (by kernel_rfl) (fun _ _ _ h => h) (Or.inl ⟨by rfl, ?hy1⟩) hHeld ?rr1
                        case hy1 => (intro w hSw; (try dsimp only at hSw); obtain ⟨_, hSa, hSb⟩ := hSw; (try simp only [List.getElem_toArray, List.getElem_cons_succ, List.getElem_cons_zero]); go_simp; try (with_reducible rfl))
                        (try simp only [List.getElem_toArray, List.getElem_cons_succ, List.getElem_cons_zero, Act.put, List.setIfInBounds_toArray, List.set_cons_zero, List.set_cons_succ])
                        refine' wpAnyH_take (i := 2) (v := _) rfl (by kernel_rfl) (by kernel_rfl) (by kernel_rfl) (fun _ _ _ h => h) (Or.inl ⟨by rfl, ?hy2⟩) hHeld ?rr2
                        case hy2 => (intro w hSw; (try dsimp only at hSw); obtain ⟨_, hSa, hSb⟩ := hSw; (try simp only [List.getElem_toArray, List.getElem_cons_succ, List.getElem_cons_zero]); go_simp; try (with_reducible rfl))
                        (try simp only [List.getElem_toArray, List.getElem_cons_succ, List.getElem_cons_zero, Act.put, List.setIfInBounds_toArray, List.set_cons_zero, List.set_cons_succ])
                        refine' wpAnyH_take (i := 3) (v := _) rfl (by kernel_rfl) (by kernel_rfl) (by kernel_rfl) (fun _ _ _ h => h) (Or.inl ⟨by rfl, ?hy3⟩) hHeld ?rr3
                        case hy3 => (intro w hSw; (try dsimp only at hSw); obtain ⟨_, hSa, hSb⟩ := hSw; (try simp only [List.getElem_toArray, List.getElem_cons_succ, List.getElem_cons_zero]); go_simp; try (with_reducible rfl))
                        (try simp only [List.getElem_toArray, List.getElem_cons_succ, List.getElem_cons_zero, Act.put, List.setIfInBounds_toArray, List.set_cons_zero, List.set_cons_succ])
                        refine' wpAnyH_take (i := 4) (v := _) rfl (by kernel_rfl) (by kernel_rfl) (by kernel_rfl) (fun _ _ _ h => h) (Or.inl ⟨by rfl, ?hy4⟩) hHeld ?rr4
                        case hy4 => (intro w hSw; (try dsimp only at hSw); obtain ⟨_, hSa, hSb⟩ := hSw; (try simp only [List.getElem_toArray, List.getElem_cons_succ, List.getElem_cons_zero]); go_simp; try (with_reducible rfl))
                        (try simp only [List.getElem_toArray, List.getElem_cons_succ, List.getElem_cons_zero, Act.put, List.setIfInBounds_toArray, List.set_cons_zero, List.set_cons_succ])
                        refine' wpAnyH_take (i := 5) (v := _) rfl (by kernel_rfl) (by kernel_rfl) (by kernel_rfl) (fun _ _ _ h => h) (Or.inl ⟨by rfl, ?hy5⟩) hHeld ?rr5
                        case hy5 => (intro w hSw; (try dsimp only at hSw); obtain ⟨_, hSa, hSb⟩ := hSw; (try simp only [List.getElem_toArray, List.getElem_cons_succ, List.getElem_cons_zero]); go_simp; try (with_reducible rfl))
                        (try simp only [List.getElem_toArray, List.getElem_cons_succ, List.getElem_cons_zero, Act.put, List.setIfInBounds_toArray, List.set_cons_zero, List.set_cons_succ])
                        refine' wpAnyH_take (i := 6) (v := _) rfl (by kernel_rfl) (by kernel_rfl) (by kernel_rfl) (fun _ _ _ h => h) (Or.inl ⟨by rfl, ?hy6⟩) hHeld ?rr6
                        case hy6 => (intro w hSw; (try dsimp only at hSw); obtain ⟨_, hSa, hSb⟩ := hSw; (try simp only [List.getElem_toArray, List.getElem_cons_succ, List.getElem_cons_zero]); go_simp; try (with_reducible rfl))
                        (try simp only [List.getElem_toArray, List.getElem_cons_succ, List.getElem_cons_zero, Act.put, List.setIfInBounds_toArray, List.set_cons_zero, List.set_cons_succ])
                        refine' wpAnyH_take (i := 7) (v := _) rfl (by kernel_rfl) (by kernel_rfl) (by kernel_rfl) (fun _ _ _ h => h) (Or.inl ⟨by rfl, ?hy7⟩) hHeld ?rr7
                        case hy7 => (intro w hSw; (try dsimp only at hSw); obtain ⟨_, hSa, hSb⟩ := hSw; (try simp only [List.getElem_toArray, List.getElem_cons_succ, List.getElem_cons_zero]); go_simp; try (with_reducible rfl))
                        (try simp only [List.getElem_toArray, List.getElem_cons_succ, List.getElem_cons_zero, Act.put, List.setIfInBounds_toArray, List.set_cons_zero, List.set_cons_succ])
                        refine' wpAnyH_take (i := 8) (v := _) rfl (by kernel_rfl) (by kernel_rfl) (by kernel_rfl) (fun _ _ _ h => h) (Or.inl ⟨by rfl, ?hy8⟩) hHeld ?rr8
                        case hy8 => (intro w hSw; (try dsimp only at hSw); obtain ⟨_, hSa, hSb⟩ := hSw; (try simp only [List.getElem_toArray, List.getElem_cons_succ, List.getElem_cons_zero]); go_simp; try (with_reducible rfl))
                        (try simp only [List.getElem_toArray, List.getElem_cons_succ, List.getElem_cons_zero, Act.put, List.setIfInBounds_toArray, List.set_cons_zero, List.set_cons_succ])
                        refine' wpAnyH_take (i := 9) (v := _) rfl (by kernel_rfl) (by kernel_rfl) (by kernel_rfl) (fun _ _ _ h => h) (Or.inl ⟨by rfl, ?hy9⟩) hHeld ?rr9
                        case hy9 => (intro w hSw; (try dsimp only at hSw); obtain ⟨_, hSa, hSb⟩ := hSw; (try simp only [List.getElem_toArray, List.getElem_cons_succ, List.getElem_cons_zero]); go_simp; try (with_reducible rfl))
                        (try simp only [List.getElem_toArray, List.getElem_cons_succ, List.getElem_cons_zero, Act.put, List.setIfInBounds_toArray, List.set_cons_zero, List.set_cons_succ])
                        refine' wpAnyH_take (i := 10) (v := _) rfl (by kernel_rfl) (by kernel_rfl) (by kernel_rfl) (fun _ _ _ h => h) (Or.inl ⟨by rfl, ?hy10⟩) hHeld ?rr10
                        case hy10 => (intro w hSw; (try dsimp only at hSw); obtain ⟨_, hSa, hSb⟩ := hSw; (try simp only [List.getElem_toArray, List.getElem_cons_succ, List.getElem_cons_zero]); go_simp; try (with_reducible rfl))
                        (try simp only [List.getElem_toArray, List.getElem_cons_succ, List.getElem_cons_zero, Act.put, List.setIfInBounds_toArray, List.set_cons_zero, List.set_cons_succ])
                        refine' wpAnyH_take (i := 11) (v := _) rfl (by kernel_rfl) (by kernel_rfl) (by kernel_rfl) (fun _ _ _ h => h) (Or.inl ⟨by rfl, ?hy11⟩) hHeld ?rr11
                        case hy11 => (intro w hSw; (try dsimp only at hSw); obtain ⟨_, hSa, hSb⟩ := hSw; (try simp only [List.getElem_toArray, List.getElem_cons_succ, List.getElem_cons_zero]); go_simp; try (with_reducible rfl))
                        (try simp only [List.getElem_toArray, List.getElem_cons_succ, List.getElem_cons_zero, Act.put, List.setIfInBounds_toArray, List.set_cons_zero, List.set_cons_succ])
                        refine' wpAnyH_take (i := 12) (v := _) rfl (by kernel_rfl) (by kernel_rfl) (by kernel_rfl) (fun _ _ _ h => h) (Or.inl ⟨by rfl, ?hy12⟩) hHeld ?rr12
                        case hy12 => (intro w hSw; (try dsimp only at hSw); obtain ⟨_, hSa, hSb⟩ := hSw; (try simp only [List.getElem_toArray, List.getElem_cons_succ, List.getElem_cons_zero]); go_simp; try (with_reducible rfl))
                        (try simp only [List.getElem_toArray, List.getElem_cons_succ, List.getElem_cons_zero, Act.put, List.setIfInBounds_toArray, List.set_cons_zero, List.set_cons_succ])
                        refine' wpAnyH_take (i := 13) (v := _) rfl (by kernel_rfl) (by kernel_rfl) (by kernel_rfl) (fun _ _ _ h => h) (Or.inl ⟨by rfl, ?hy13⟩) hHeld ?rr13
                        case hy13 => (intro w hSw; (try dsimp only at hSw); obtain ⟨_, hSa, hSb⟩ := hSw; (try simp only [List.getElem_toArray, List.getElem_cons_succ, List.getElem_cons_zero]); go_simp; try (with_reducible rfl))
                        (try simp only [List.getElem_toArray, List.getElem_cons_succ, List.getElem_cons_zero, Act.put, List.setIfInBounds_toArray, List.set_cons_zero, List.set_cons_succ])
                        refine' wpAnyH_take (i := 14) (v := _) rfl (by kernel_rfl) (by kernel_rfl) (by kernel_rfl) (fun _ _ _ h => h) (Or.inl ⟨by rfl, ?hy14⟩) hHeld ?rr14
                        case hy14 => (intro w hSw; (try dsimp only at hSw); obtain ⟨_, hSa, hSb⟩ := hSw; (try simp only [List.getElem_toArray, List.getElem_cons_succ, List.getElem_cons_zero]); go_simp; try (with_reducible rfl))
                        (try simp only [List.getElem_toArray, List.getElem_cons_succ, List.getElem_cons_zero, Act.put, List.setIfInBounds_toArray, List.set_cons_zero, List.set_cons_succ])
                        refine' wpAnyH_take (i := 15) (v := _) rfl (by kernel_rfl) (by kernel_rfl) (by kernel_rfl) (fun _ _ _ h => h) (Or.inl ⟨by rfl, ?hy15⟩) hHeld ?rr15
                        case hy15 => (intro w hSw; (try dsimp only at hSw); obtain ⟨_, hSa, hSb⟩ := hSw; (try simp only [List.getElem_toArray, List.getElem_cons_succ, List.getElem_cons_zero]); go_simp; try (with_reducible rfl))
                        (try simp only [List.getElem_toArray, List.getElem_cons_succ, List.getElem_cons_zero, Act.put, List.setIfInBounds_toArray, List.set_cons_zero, List.set_cons_succ])
                        refine' wpAnyH_take (i := 17) (v := _) rfl (by kernel_rfl) (by kernel_rfl) (by kernel_rfl) (fun _ _ _ h => h) (Or.inl ⟨by rfl, ?hy17⟩) hHeld ?rr17
                        case hy17 => (intro w hSw; (try dsimp only at hSw); obtain ⟨_, hSa, hSb⟩ := hSw; (try simp only [List.getElem_toArray, List.getElem_cons_succ, List.getElem_cons_zero]); go_simp; try (with_reducible rfl))
                        (try simp only [List.getElem_toArray, List.getElem_cons_succ, List.getElem_cons_zero, Act.put, List.setIfInBounds_toArray, List.set_cons_zero, List.set_cons_succ])
                        refine wpAnyH_ready (rs := [16]) (by kernel_rfl) (by simp) ?_
                        refine AllReadyH.cons rfl (fun K hK => ?_) AllReadyH.nil
                        go_simp
                        (go_at_call 25; ((with_reducible refine (rCanon_enc hlt HCVV.out _).mono ?_); rintro e w' ⟨rfl, hb⟩))
                        have hH2 := HSB.out _ (below_step hHeld.1 hb (by simp))
                        clear hHeld hb
                        (try go_wp2_with fail)
                        refine hK.out _ _ hH2 (fun hHeld => ?_)
                        clear hK K hH2
                        (try simp only [List.getElem_toArray, List.getElem_cons_succ, List.getElem_cons_zero, Act.put, List.setIfInBounds_toArray, List.set_cons_zero, List.set_cons_succ])
                        refine' wpAnyH_take (i := 18) (v := _) rfl (by kernel_rfl) (by kernel_rfl) (by kernel_rfl) (fun _ _ _ h => h) (Or.inl ⟨by rfl, ?hy18⟩) hHeld ?rr18
                        case hy18 => (intro w hSw; (try dsimp only at hSw); obtain ⟨_, hSa, hSb⟩ := hSw; (try simp only [List.getElem_toArray, List.getElem_cons_succ, List.getElem_cons_zero]); go_simp; try (with_reducible rfl))
                        (try simp only [List.getElem_toArray, List.getElem_cons_succ, List.getElem_cons_zero, Act.put, List.setIfInBounds_toArray, List.set_cons_zero, List.set_cons_succ])
                        refine' wpAnyH_take (i := 19) (v := _) rfl (by kernel_rfl) (by kernel_rfl) (by kernel_rfl) (fun _ _ _ h => h) (Or.inl ⟨by rfl, ?hy19⟩) hHeld ?rr19
                        case hy19 => (intro w hSw; (try dsimp only at hSw); obtain ⟨_, hSa, hSb⟩ := hSw; (try simp only [List.getElem_toArray, List.getElem_cons_succ, List.getElem_cons_zero]); go_simp; try (with_reducible rfl))
                        (try simp only [List.getElem_toArray, List.getElem_cons_succ, List.getElem_cons_zero, Act.put, List.setIfInBounds_toArray, List.set_cons_zero, List.set_cons_succ])
                        refine' wpAnyH_take (i := 20) (v := _) rfl (by kernel_rfl) (by kernel_rfl) (by kernel_rfl) (fun _ _ _ h => h) (Or.inl ⟨by rfl, ?hy20⟩) hHeld ?rr20
                        case hy20 => (intro w hSw; (try dsimp only at hSw); obtain ⟨_, hSa, hSb⟩ := hSw; (try simp only [List.getElem_toArray, List.getElem_cons_succ, List.getElem_cons_zero]); go_simp; try (with_reducible rfl))
                        (try simp only [List.getElem_toArray, List.getElem_cons_succ, List.getElem_cons_zero, Act.put, List.setIfInBounds_toArray, List.set_cons_zero, List.set_cons_succ])
                        refine' wpAnyH_take (i := 21) (v := _) rfl (by kernel_rfl) (by kernel_rfl) (by kernel_rfl) (fun _ _ _ h => h) (Or.inl ⟨by rfl, ?hy21⟩) hHeld ?rr21
                        case hy21 => (intro w hSw; (try dsimp only at hSw); obtain ⟨_, hSa, hSb⟩ := hSw; (try simp only [List.getElem_toArray, List.getElem_cons_succ, List.getElem_cons_zero]); go_simp; try (with_reducible rfl))
                        (try simp only [List.getElem_toArray, List.getElem_cons_succ, List.getElem_cons_zero, Act.put, List.setIfInBounds_toArray, List.set_cons_zero, List.set_cons_succ])
                        refine' wpAnyH_take (i := 22) (v := _) rfl (by kernel_rfl) (by kernel_rfl) (by kernel_rfl) (fun _ _ _ h => h) (Or.inl ⟨by rfl, ?hy22⟩) hHeld ?rr22
                        case hy22 => (intro w hSw; (try dsimp only at hSw); obtain ⟨_, hSa, hSb⟩ := hSw; (try simp only [List.getElem_toArray, List.getElem_cons_succ, List.getElem_cons_zero]); go_simp; try (with_reducible rfl))
                        (try simp only [List.getElem_toArray, List.getElem_cons_succ, List.getElem_cons_zero, Act.put, List.setIfInBounds_toArray, List.set_cons_zero, List.set_cons_succ])
                        refine' wpAnyH_take (i := 23) (v := _) rfl (by kernel_rfl) (by kernel_rfl) (by kernel_rfl) (fun _ _ _ h => h) (Or.inl ⟨by rfl, ?hy23⟩) hHeld ?rr23
                        case hy23 => (intro w hSw; (try dsimp only at hSw); obtain ⟨_, hSa, hSb⟩ := hSw; (try simp only [List.getElem_toArray, List.getElem_cons_succ, List.getElem_cons_zero]); go_simp; try (with_reducible rfl))
                        (try simp only [List.getElem_toArray, List.getElem_cons_succ, List.getElem_cons_zero, Act.put, List.setIfInBounds_toArray, List.set_cons_zero, List.set_cons_succ])
                        refine' wpAnyH_take (i := 24) (v := _) rfl (by kernel_rfl) (by kernel_rfl) (by kernel_rfl) (fun _ _ _ h => h) (Or.inl ⟨by rfl, ?hy24⟩) hHeld ?rr24
                        case hy24 => (intro w hSw; (try dsimp only at hSw); obtain ⟨_, hSa, hSb⟩ := hSw; (try simp only [List.getElem_toArray, List.getElem_cons_succ, List.getElem_cons_zero]); go_simp; try (with_reducible rfl))
                        (try simp only [List.getElem_toArray, List.getElem_cons_succ, List.getElem_cons_zero, Act.put, List.setIfInBounds_toArray, List.set_cons_zero, List.set_cons_succ])
                        refine' wpAnyH_take (i := 25) (v := _) rfl (by kernel_rfl) (by kernel_rfl) (by kernel_rfl) (fun _ _ _ h => h) (Or.inl ⟨by rfl, ?hy25⟩) hHeld ?rr25
                        case hy25 => (intro w hSw; (try dsimp only at hSw); obtain ⟨_, hSa, hSb⟩ := hSw; (try simp only [List.getElem_toArray, List.getElem_cons_succ, List.getElem_cons_zero]); go_simp; try (with_reducible rfl))
                        (try simp only [List.getElem_toArray, List.getElem_cons_succ, List.getElem_cons_zero, Act.put, List.setIfInBounds_toArray, List.set_cons_zero, List.set_cons_succ])
                        refine' wpAnyH_take (i := 26) (v := _) rfl (by kernel_rfl) (by kernel_rfl) (by kernel_rfl) (fun _ _ _ h => h) (Or.inl ⟨by rfl, ?hy26⟩) hHeld ?rr26
                        case hy26 => (intro w hSw; (try dsimp only at hSw); obtain ⟨_, hSa, hSb⟩ := hSw; (try simp only [List.getElem_toArray, List.getElem_cons_succ, List.getElem_cons_zero]); go_simp; try (with_reducible rfl))
                        (try simp only [List.getElem_toArray, List.getElem_cons_succ, List.getElem_cons_zero, Act.put, List.setIfInBounds_toArray, List.set_cons_zero, List.set_cons_succ])
                        refine' wpAnyH_take (i := 27) (v := _) rfl (by kernel_rfl) (by kernel_rfl) (by kernel_rfl) (fun _ _ _ h => h) (Or.inl ⟨by rfl, ?hy27⟩) hHeld ?rr27
                        case hy27 => (intro w hSw; (try dsimp only at hSw); obtain ⟨_, hSa, hSb⟩ := hSw; (try simp only [List.getElem_toArray, List.getElem_cons_succ, List.getElem_cons_zero]); go_simp; try (with_reducible rfl))
                        (try simp only [List.getElem_toArray, List.getElem_cons_succ, List.getElem_cons_zero, Act.put, List.setIfInBounds_toArray, List.set_cons_zero, List.set_cons_succ])
                        refine' wpAnyH_take (i := 28) (v := _) rfl (by kernel_rfl) (by kernel_rfl) (by kernel_rfl) (fun _ _ _ h => h) (Or.inl ⟨by rfl, ?hy28⟩) hHeld ?rr28
                        case hy28 => (intro w hSw; (try dsimp only at hSw); obtain ⟨_, hSa, hSb⟩ := hSw; (try simp only [List.getElem_toArray, List.getElem_cons_succ, List.getElem_cons_zero]); go_simp; try (with_reducible rfl))
                        (try simp only [List.getElem_toArray, List.getElem_cons_succ, List.getElem_cons_zero, Act.put, List.setIfInBounds_toArray, List.set_cons_zero, List.set_cons_succ])
                        refine wpAnyH_take (i := 29) (v := undef) rfl (by kernel_rfl) (by kernel_rfl) (by kernel_rfl) (fun _ _ _ h => h) (Or.inr ⟨by rfl, rfl⟩) hHeld ?_
                        (try simp only [List.getElem_toArray, List.getElem_cons_succ, List.getElem_cons_zero, Act.put, List.setIfInBounds_toArray, List.set_cons_zero, List.set_cons_succ])
                        refine wpAnyH_take (i := 30) (v := undef) rfl (by kernel_rfl) (by kernel_rfl) (by kernel_rfl) (fun _ _ _ h => h) (Or.inr ⟨by rfl, rfl⟩) hHeld ?_
                        (try simp only [List.getElem_toArray, List.getElem_cons_succ, List.getElem_cons_zero, Act.put, List.setIfInBounds_toArray, List.set_cons_zero, List.set_cons_succ])
                        refine wpAnyH_take (i := 31) (v := undef) rfl (by kernel_rfl) (by kernel_rfl) (by kernel_rfl) (fun _ _ _ h => h) (Or.inr ⟨by rfl, rfl⟩) hHeld ?_
                        (try simp only [List.getElem_toArray, List.getElem_cons_succ, List.getElem_cons_zero, Act.put, List.setIfInBounds_toArray, List.set_cons_zero, List.set_cons_succ])
                        refine' wpAnyH_take (i := 32) (v := _) rfl (by kernel_rfl) (by kernel_rfl) (by kernel_rfl) (fun _ _ _ h => h) (Or.inl ⟨by rfl, ?hy32⟩) hHeld ?rr32
                        case hy32 => (intro w hSw; (try dsimp only at hSw); obtain ⟨_, hSa, hSb⟩ := hSw; (try simp only [List.getElem_toArray, List.getElem_cons_succ, List.getElem_cons_zero]); go_simp; try (with_reducible rfl))
                        (try simp only [List.getElem_toArray, List.getElem_cons_succ, List.getElem_cons_zero, Act.put, List.setIfInBounds_toArray, List.set_cons_zero, List.set_cons_succ])
                        refine' wpAnyH_take (i := 33) (v := _) rfl (by kernel_rfl) (by kernel_rfl) (by kernel_rfl) (fun _ _ _ h => h) (Or.inl ⟨by rfl, ?hy33⟩) hHeld ?rr33
                        case hy33 => (intro w hSw; (try dsimp only at hSw); obtain ⟨_, hSa, hSb⟩ := hSw; (try simp only [List.getElem_toArray, List.getElem_cons_succ, List.getElem_cons_zero]); go_simp; try (with_reducible rfl))
                        (try simp only [List.getElem_toArray, List.getElem_cons_succ, List.getElem_cons_zero, Act.put, List.setIfInBounds_toArray, List.set_cons_zero, List.set_cons_succ])
                        refine wpAnyH_done (by kernel_rfl) ?_ _
                        go_wp2
                        go_roundw
                        case rel => exact ⟨j + 1, by omega, by go_num, hb12.trans ((below_box (by first | assumption | (go_split_ands; assumption))).mono hb12.size)⟩
                        case measure => simp [RowKit.intOf]; omega
                      · injection hm with hm1 hm2
                        subst hm1 hm2
                        have hlo : decide ((j : Int) < (fs.length : Int) - 9) = false := decide_eq_false (by omega)
                        have hge : decide ((fs.length : Int) - 9 ≤ (j : Int)) = true := decide_eq_true (by omega)
                        unfold grownT at h0
                        clear hxy HCV HCVV
                        go_wp2_with fail
                        go_quiet (fail)
                        go_wp2
                        go_roundw
                        case rel => exact ⟨j + 1, by omega, by go_num, below_drewN (hb12.alloc hb12.size _) _⟩
                        case measure => simp [RowKit.intOf]; omega
                    · go_wp2
                      go_roundw
                      case rel => exact ⟨k + 1, by omega, by go_num, hb12⟩
                      case measure => simp [RowKit.intOf]; omega
                · have hbe := hbw4.trans ((hbr.trans (hb11.mono hbr.size)).mono hbw4.size)
                  have hie := hi4.below (hbr.trans (hb11.mono hbr.size))
                  have hre := hr4.below (hbr.trans (hb11.mono hbr.size))
                  clear hT hTh hrV hb11 hbr
                  go_wp2_with fail
                  refine (plain_any A c l wr hre (by omega)).mono ?_
                  rintro e w21 ⟨P1, q1, rfl, hown, hb⟩
                  have i_21 := hie.below hb
                  have r_21 := hre.below hb
                  have p_21 := own_row hown
                  have hbw21 := hbe.trans (hb.mono hbe.size)
                  clear hb hie hre hbe hown
                  go_wp2_with fail
                  refine (sames_any (A := I) (B := P1) ci q1 l w21 i_21 p_21 (by omega)).mono ?_
                  rintro e w22 ⟨rfl, hb⟩
                  have i_22 := i_21.below hb
                  have r_22 := r_21.below hb
                  have hbw22 := hbw21.trans (hb.mono hbw21.size)
                  clear hb p_21 i_21 r_21 hbw21
                  go_wp2_with fail
                  refine (HM.out I ci w22 i_22).mono ?_
                  rintro e w23 ⟨Y1, y1, rfl, hown, hb⟩
                  have r_23 := r_22.below hb
                  have y_23 := own_row hown
                  have hbw23 := hbw22.trans (hb.mono hbw22.size)
                  clear hb i_22 r_22 hbw22 hown
                  go_wp2_with fail
                  refine (plain_any A c l w23 r_23 (by omega)).mono ?_
                  rintro e w24 ⟨P2, q2, rfl, hown, hb⟩
                  have y_24 := y_23.below hb
                  have p_24 := own_row hown
                  have hbw24 := hbw23.trans (hb.mono hbw23.size)
                  clear hb r_23 y_23 hbw23 hown
                  go_wp2_with fail
                  refine (HRM.out P2 q2 w24 p_24).mono ?_
                  rintro e w25 ⟨Y2, y2, rfl, hown, hb⟩
                  have y_25 := y_24.below hb
                  have z_25 := own_row hown
                  have hbw25 := hbw24.trans (hb.mono hbw24.size)
                  clear hb p_24 y_24 hbw24 hown
                  go_wp2_with fail
                  refine (sames_any (A := Y1) (B := Y2) y1 y2 rm w25 y_25 z_25 (by omega)).mono ?_
                  rintro e w26 ⟨rfl, hb⟩
                  have hbw26 := hbw25.trans (hb.mono hbw25.size)
                  clear hb y_25 z_25 hbw25
                  go_wp2
                  go_ret
                  exact ⟨rfl, hbw26⟩
end Go.Proofs.YtamagbdkcfmfmaaDoor
