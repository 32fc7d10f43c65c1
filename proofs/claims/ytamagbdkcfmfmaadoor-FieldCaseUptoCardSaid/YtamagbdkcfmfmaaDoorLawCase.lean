/-
  The walk of FieldCase.
-/
import Derived.Test.YtamagbdkcfmfmaaDoorTurned
import Derived.Test.YtamagbdkcfmfmaaDoorFram
import Derived.Test.YtamagbdkcfmfmaaDoorHops
import Derived.Test.YtamagbdkcfmfmaaDoorLawTurns
namespace Go.Proofs.YtamagbdkcfmfmaaDoor
open Go.RowKit Go.Shelf Go.Lib

set_option maxRecDepth 100000 in
set_option maxHeartbeats 8000000 in
theorem FieldCase_walk (A : Option Addr) (c : Nat) (l : List Fl) (n : Int) (old : Bool) (w : World) (hr : Row w A (flat l)) (_hl : l.length ≤ 4398046511102) (_hw : Wide l) (_hn : -9223372036854775808 ≤ n ∧ n ≤ 9223372036854775807) (hk : bulkF l + 0 + 0 ≤ 1048576) (hg : Glob w) :
    Calls Tryd.prog 15 #[.slice A l.length c, .int .i64 n, .bool old] w fun e w' => e = .returned (.bool true) ∧ Below w.heap.size w w' := by
  have hkb : bulkF l ≤ 1048576 := by omega
  have hbl := bulk_len l
  go_enter Tryd.func15, Tryd.ntmps15
  go_wp2_with fail
  refine (awake_any w hg).mono ?_
  rintro e w1 ⟨rfl, hb1⟩
  have hr1 := hr.below hb1
  have hg1 := hg.beyond hb1
  go_wp2_with fail
  refine (turned_any A c l n w1 hr1 hkb).mono ?_
  rintro e w2 ⟨m, hT, M, cm, rfl, hown2, hb2⟩
  have hm2 := own_row hown2
  have hr2 := hr1.below hb2
  have hg2 := hg1.beyond hb2
  have hbw2 := hb1.trans (hb2.mono hb1.size)
  have hmb := hT.bulk
  have hml : m.length ≤ 1048576 := by have := hT.len; omega
  have hkm : bulkF m ≤ 1048576 := by omega
  have HON := Lib.hid (hT.onw (tokR (listR (allV l ⟨#[67, 111, 110, 110, 101, 99, 116, 105, 111, 110]⟩))).1)
  have hol := onwR_len l (tokR (listR (allV l ⟨#[67, 111, 110, 110, 101, 99, 116, 105, 111, 110]⟩))).1
  have HF := Lib.hid (fun A c w hr hg => Framing_any A c l old w hr hkb hg)
  have HFM := Lib.hid (fun A c w hr hg => Framing_any A c m old w hr hkm hg)
  have HP := Lib.hid (fun A c w hr hg => Persist_any A c l old w hr hkb hg)
  have HPM := Lib.hid (fun A c w hr hg => Persist_any A c m old w hr hkm hg)
  have HH := Lib.hid (fun A c w hr => Host_any A c l old w hr hkb)
  have HHM := Lib.hid (fun A c w hr => Host_any A c m old w hr hkm)
  have HO := Lib.hid (fun A c w hr hg => Onward_any A c l w hr hkb hg)
  have HOM := Lib.hid (fun A c w hr hg => Onward_any A c m w hr hkm hg)
  have HAL := Lib.hid (fun name (hn : name.size ≤ maxLen) A c w hr => All_any A c l name w hr (by omega) (bulk_wide hkb) hn)
  have HAM := Lib.hid (fun name (hn : name.size ≤ maxLen) A c w hr => All_any A c m name w hr (by omega) (bulk_wide hkm) hn)
  simp only [hT.all] at HFM HPM HHM HOM HAM
  clear hT hmb hown2 hb1 hb2 hr1 hg1
  generalize framR (codR (allV l teName)) (lengthR (allV l clName)) old = fr at *
  generalize persR (tokR (listR (allV l coName))) old = pp at *
  generalize hostR (allV l hoName) old = hh at *
  generalize (tokR (listR (allV l ⟨#[67, 111, 110, 110, 101, 99, 116, 105, 111, 110]⟩))).1 = tk at *
  obtain ⟨fk, fn, fe⟩ := fr
  obtain ⟨hs, hb, he⟩ := hh
  unfold framVal at HF HFM
  have hpp : (pp != pp) = false := by cases pp <;> rfl
  have hbb : (hb != hb) = false := by cases hb <;> rfl
  go_wp2_with fail
  refine (wide_any A c l w2 hr2 (by omega)).mono ?_
  rintro e w3 ⟨B1, c1, rfl, hown, hb⟩
  have r_3 := hr2.below hb
  have m_3 := hm2.below hb
  have g_3 := hg2.beyond hb
  have in_3 := own_row hown
  have hbw3 := hbw2.trans (hb.mono hbw2.size)
  clear hb hr2 hm2 hg2 hbw2 hown
  go_wp2_with fail
  refine (HF.out B1 c1 w3 in_3 g_3).mono ?_
  rintro e w4 ⟨rfl, hb⟩
  have r_4 := r_3.below hb
  have m_4 := m_3.below hb
  have g_4 := g_3.beyond hb
  have hbw4 := hbw3.trans (hb.mono hbw3.size)
  clear hb in_3 r_3 m_3 g_3 hbw3
  have r_5 := r_4.alloc (.cells #[.int .i64 fk, .int .i64 fn] 90)
  have m_5 := m_4.alloc (.cells #[.int .i64 fk, .int .i64 fn] 90)
  have g_5 := g_4.alloc (.cells #[.int .i64 fk, .int .i64 fn] 90)
  have hbw5 := hbw4.alloc hbw4.size (.cells #[.int .i64 fk, .int .i64 fn] 90)
  clear r_4 m_4 g_4 hbw4
  go_wp2_with fail
  refine (HFM.out M cm _ m_5 g_5).mono ?_
  rintro e w6 ⟨rfl, hb⟩
  obtain ⟨⟨ha0, ha1⟩, _, hasz⟩ := box2 (w := w4) (by simpa using hb)
  have r_6 := r_5.below hb
  have m_6 := m_5.below hb
  have g_6 := g_5.beyond hb
  have hbw6 := hbw5.trans (hb.mono hbw5.size)
  clear hb r_5 m_5 g_5 hbw5
  have hasz2 : w4.heap.size < w6.heap.size := hasz
  have r_7 := r_6.alloc (.cells #[.int .i64 fk, .int .i64 fn] 90)
  have m_7 := m_6.alloc (.cells #[.int .i64 fk, .int .i64 fn] 90)
  have g_7 := g_6.alloc (.cells #[.int .i64 fk, .int .i64 fn] 90)
  have hbw7 := hbw6.alloc hbw6.size (.cells #[.int .i64 fk, .int .i64 fn] 90)
  clear r_6 m_6 g_6 hbw6
  clear hasz
  go_wp2_with fail
  refine (wide_any A c l (w6.alloc (.cells #[.int .i64 fk, .int .i64 fn] 90)) r_7 (by omega)).mono ?_
  rintro e w8 ⟨B2, c2, rfl, hown, hb⟩
  have r_8 := r_7.below hb
  have m_8 := m_7.below hb
  have g_8 := g_7.beyond hb
  have in_8 := own_row hown
  have hbw8 := hbw7.trans (hb.mono hbw7.size)
  clear hb r_7 m_7 g_7 hbw7 hown
  go_wp2_with fail
  refine (HP.out B2 c2 w8 in_8 g_8).mono ?_
  rintro e w9 ⟨rfl, hb⟩
  have r_9 := r_8.below hb
  have m_9 := m_8.below hb
  have g_9 := g_8.beyond hb
  have hbw9 := hbw8.trans (hb.mono hbw8.size)
  clear hb in_8 r_8 m_8 g_8 hbw8
  go_wp2_with fail
  refine (HPM.out M cm _ m_9 g_9).mono ?_
  rintro e w10 ⟨rfl, hb⟩
  have r_10 := r_9.below hb
  have m_10 := m_9.below hb
  have g_10 := g_9.beyond hb
  have hbw10 := hbw9.trans (hb.mono hbw9.size)
  clear hb r_9 m_9 g_9 hbw9
  go_wp2_with fail
  refine (wide_any A c l w10 r_10 (by omega)).mono ?_
  rintro e w11 ⟨B3, c3, rfl, hown, hb⟩
  have r_11 := r_10.below hb
  have m_11 := m_10.below hb
  have g_11 := g_10.beyond hb
  have in_11 := own_row hown
  have hbw11 := hbw10.trans (hb.mono hbw10.size)
  clear hb r_10 m_10 g_10 hbw10 hown
  go_wp2_with fail
  refine (HH.out B3 c3 w11 in_11).mono ?_
  rintro e w12 ⟨rfl, hb⟩
  have r_12 := r_11.below hb
  have m_12 := m_11.below hb
  have g_12 := g_11.beyond hb
  have hbw12 := hbw11.trans (hb.mono hbw11.size)
  clear hb in_11 r_11 m_11 g_11 hbw11
  go_wp2_with fail
  refine (HHM.out M cm _ m_12).mono ?_
  rintro e w13 ⟨rfl, hb⟩
  have r_13 := r_12.below hb
  have m_13 := m_12.below hb
  have g_13 := g_12.beyond hb
  have hbw13 := hbw12.trans (hb.mono hbw12.size)
  clear hb r_12 m_12 g_12 hbw12
  clear ha0 ha1 hasz2
  go_wp2
  go_loopw [84] (fun i wr => ∃ k : Nat, k ≤ l.length ∧ i = .int .i64 k ∧ Below w13.heap.size w13 wr) (fun i _ => l.length - (RowKit.intOf i).toNat)
  case atStart => exact ⟨0, by omega, rfl, Below.refl _ _⟩
  case round =>
    obtain ⟨k, hkk, rfl, hbr⟩ := hrel
    have hrr := Row.below r_13 hbr
    have hrm := Row.below m_13 hbr
    by_cases hlt : k < l.length
    · obtain ⟨⟨x, y⟩, hxy⟩ := some_of_lt hlt
      obtain ⟨b, off, hA, hb, h0, h1⟩ := hrr.pair hxy
      have hx := (bulk_at hkb hxy).1
      have hxm : x.size ≤ maxLen := by unfold maxLen; omega
      have hvs := pos_of_ne (allV_self hxy)
      have hvl := allV_length l x
      have HL1 := Lib.hid (HAL.out x hxm)
      have HM1 := Lib.hid (HAM.out x hxm)
      clear hxy
      generalize allV l x = vs at *
      have hv0 : ((vs.length : Int) == 0) = false := beq_eq_false_iff_ne.2 (by omega)
      subst hA
      have hwo : (wr.alloc (.cells #[.string x, .string y] 24)).heap.size = wr.heap.size + 1 := by simp
      have HS := Lib.hid (show ∀ w', Below (wr.heap.size + 1) (wr.alloc (.cells #[.string x, .string y] 24)) w' → Below (wr.heap.size + 1) (wr.alloc (.cells #[.string x, .string y] 24)) w' ∧ w'.cell? ⟨wr.heap.size, 0, none⟩ = some (.string x) from fun w' hb => ⟨hb, (box2 hb).1.1⟩)
      have HRR := Lib.hid (show ∀ w', Below (wr.heap.size + 1) (wr.alloc (.cells #[.string x, .string y] 24)) w' → Row w' (some ⟨b, off, none⟩) (flat l) from fun w' hb => hrr.below (below_box hb))
      have HRM := Lib.hid (show ∀ w', Below (wr.heap.size + 1) (wr.alloc (.cells #[.string x, .string y] 24)) w' → Row w' M (flat m) from fun w' hb => hrm.below (below_box hb))
      clear hwo
      go_wp2_with fail
      go_region_held3 (fun w' => Below (wr.heap.size + 1) (wr.alloc (.cells #[.string x, .string y] 24)) w' ∧ w'.cell? ⟨wr.heap.size, 0, none⟩ = some (.string x))
        (first | exact HS.out _ (Below.refl _ _) | exact HS.out _ (Below.drew (Below.refl _ _)) | exact HS.out _ (below_step (Below.drew (Below.refl _ _)) hb (by simp)) | (go_split_ands; exact HS.out _ (below_step (by assumption) hb (by simp))))
        (first
          | (go_at_call 47; ((with_reducible refine (wide_any (some ⟨b, off, none⟩) c l _ (HRR.out _ (by first | exact Below.drew (Below.refl _ _) | (go_split_ands; assumption))) (by omega)).mono ?_); rintro e w' ⟨AW, cW, rfl, hownW, hb⟩; have hrowW := own_row hownW))
          | (go_at_call 44; ((with_reducible refine (HM1.out M cm _ (HRM.out _ (by first | exact Below.drew (Below.refl _ _) | (go_split_ands; assumption)))).mono ?_); rintro e w' ⟨AY, cY, rfl, hownY, hb⟩; have hrowY := own_row hownY; try (have hrowX2 := Row.below (by assumption : Row _ _ (vs.map Value.string)) hb)))
          | (go_at_call 44; ((with_reducible refine (HL1.out _ _ _ (by assumption)).mono ?_); rintro e w' ⟨AX, cX, rfl, hownX, hb⟩; have hrowX := own_row hownX))
          | (go_at_call 43; ((refine (textss_any _ _ vs _ (by assumption) (by assumption) (by omega)).mono ?_); rintro e w' ⟨rfl, hb⟩)))
      go_wp2
      go_roundw
      case rel => exact ⟨k + 1, by omega, by go_num, hbr.trans ((below_box (by go_split_ands; assumption)).mono hbr.size)⟩
      case measure => simp [RowKit.intOf]; omega
    · obtain rfl : k = l.length := by omega
      have hbe := hbw13.trans (hbr.mono hbw13.size)
      have hgr := Glob.beyond g_13 hbr
      have hlen := HON.out
      have hbq : (((onwR l tk).length : Int) == ((onwR m tk).length : Int)) = true := beq_iff_eq.2 (by omega)
      clear hlen HON
      generalize onwR l tk = ol at *
      generalize onwR m tk = om at *
      go_wp2_with fail
      refine (wide_any A c l wr hrr (by omega)).mono ?_
      rintro e w21 ⟨B4, c4, rfl, hown, hb⟩
      have r_21 := hrr.below hb
      have m_21 := hrm.below hb
      have g_21 := hgr.beyond hb
      have in_21 := own_row hown
      have hbw21 := hbe.trans (hb.mono hbe.size)
      clear hb hrr hrm hgr hbe hown
      go_wp2_with fail
      refine (HO.out B4 c4 w21 in_21 g_21).mono ?_
      rintro e w22 ⟨O1, o1, rfl, hown, hb⟩
      have r_22 := r_21.below hb
      have m_22 := m_21.below hb
      have g_22 := g_21.beyond hb
      have hbw22 := hbw21.trans (hb.mono hbw21.size)
      clear hb in_21 r_21 m_21 g_21 hbw21 hown
      go_wp2_with fail
      refine (HOM.out M cm _ m_22 g_22).mono ?_
      rintro e w23 ⟨O2, o2, rfl, hown, hb⟩
      have r_23 := r_22.below hb
      have m_23 := m_22.below hb
      have g_23 := g_22.beyond hb
      have hbw23 := hbw22.trans (hb.mono hbw22.size)
      clear hb r_22 m_22 g_22 hbw22 hown
      go_wp2
      go_ret
      exact ⟨rfl, hbw23⟩
end Go.Proofs.YtamagbdkcfmfmaaDoor
