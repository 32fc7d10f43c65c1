/-
 CjDj, without what this claim does not reach.
-/
import Derived.Test.YtbnafbdhomdcoaaGreatDoorZCjDi
namespace Go.Proofs.YtbnafbdhomdcoaaGreatDoor
open Go.RowKit Go.Shelf Go.Lib
theorem lit2 (w : World) (a b c d : ByteArray) : (w.alloc (.cells #[.string a, .string b, .string c, .string d] 59)).ownsRow w.heap.size 59 2 (.slice (some ⟨w.heap.size, 0, none⟩) 2 2) 2 (flat [(a, b), (c, d)]) :=
 World.ownsRow_lit w #[.string a, .string b, .string c, .string d] 2 (Nat.le_refl _) (by unfold maxLen; omega) rfl
set_option maxRecDepth 20000 in
set_option maxHeartbeats 16000000 in
theorem origin_flight {m : Mid} {r : Rq} (hkd : m.kind = 8) (h0l : 0 < m.list.length) {ov v : ByteArray} (hfr : fromP m r = some ov) (haq : onlyP r.fields acrmN = some v) (hmo : r.method = optsT) : DoR m 71 r := by
 intro D Pre n0 N T f w A c FA fc TA tc hE hP hX hn0 hN8 hN hA hcap hF hT hm hr
 obtain ⟨g, lb, rfl, he, hc⟩ := hX
 obtain ⟨lb0, lo0, sf, rfl, hlb, hlc, hst⟩ := first_cell hA.row h0l
 have HC := Lib.hid (nx_call fc tc hE hP hc hF hT hr)
 have HL := Lib.hid hE.low
 have HG := Lib.hid (fun W h => hE.globC (W := W) h)
 have HN0 := Lib.hid hn0
 have HN8 := Lib.hid hN8
 have HN := Lib.hid hN
 have HON := Lib.hid (fun (name : ByteArray) (hz : name.size ≤ maxLen) (W : World) (h : Below w.heap.size w W) => only_any r FA fc TA tc name W (hF.below h).row hr hz)
 have HCT := Lib.hid (fun (s : ByteArray) (W : World) (h : Below w.heap.size w W) => Contains_any (some ⟨lb0, lo0, none⟩) c m.list s W (hA.below h).row (list_ok hm.list).1)
 have HVR := Lib.hid (fun (W : World) (h : Keep D w W) => vary_any m (some ⟨lb0, lo0, none⟩) c W (hA.keep h).row h0l)
 have HVF := Lib.hid (varyP_fit m)
 have HFB := Lib.hid (fun (W : World) (h : Below w.heap.size w W) => ((h.cell (p := ⟨lb0, lo0, none⟩) hlb).trans hlc))
 have HSC := Lib.hid (fun (W : World) (h : Keep D (X3 w (midC m (some ⟨lb0, lo0, none⟩) c) (rqC r FA fc TA tc)) W) => (⟨(X3_facts hE.low h).1.1, (X3_facts hE.low h).1.2⟩ : (W.cell? ⟨w.heap.size, 0, none⟩ = some (.int .i64 m.kind) ∧ W.cell? ⟨w.heap.size, 1, none⟩ = some (.string m.name) ∧ W.cell? ⟨w.heap.size, 2, none⟩ = some (.string m.value) ∧ W.cell? ⟨w.heap.size, 3, none⟩ = some (.slice (some ⟨lb0, lo0, none⟩) m.list.length c) ∧ W.cell? ⟨w.heap.size, 4, none⟩ = some (.int .i64 m.n)) ∧ (W.cell? ⟨w.heap.size + 1, 0, none⟩ = some (.string r.method) ∧ W.cell? ⟨w.heap.size + 1, 1, none⟩ = some (.string r.target) ∧ W.cell? ⟨w.heap.size + 1, 2, none⟩ = some (.int .i64 r.major) ∧ W.cell? ⟨w.heap.size + 1, 3, none⟩ = some (.int .i64 r.minor) ∧ W.cell? ⟨w.heap.size + 1, 4, none⟩ = some (.slice FA r.fields.length fc) ∧ W.cell? ⟨w.heap.size + 1, 5, none⟩ = some (.string r.body) ∧ W.cell? ⟨w.heap.size + 1, 6, none⟩ = some (.slice TA r.trailers.length tc))))
 have HFM := Lib.hid hm
 have HAI := Lib.hid (orig_flight hkd (flight_yes hfr haq hmo))
 have HFX := Lib.hid (flight_fit hm hr (flight_yes hfr haq hmo))
 have hfs : ∃ s, onlyP r.fields originN = some s ∧ ((firstStar m = true ∧ ov = ⟨#[42]⟩) ∨ (firstStar m = false ∧ isIn m.list s = true ∧ ov = s)) := by
  cases hon : onlyP r.fields originN with
  | none => rw [from_none hon] at hfr; cases hfr
  | some s =>
   rw [from_some hon] at hfr
   cases h1 : firstStar m
   ·cases h2 : isIn m.list s
    ·rw [h1, h2] at hfr; cases hfr
    ·rw [h1, h2] at hfr; injection hfr with hfr; exact ⟨s, rfl, .inr ⟨rfl, h2, hfr.symm⟩⟩
   ·rw [h1] at hfr; injection hfr with hfr; exact ⟨s, rfl, .inl ⟨rfl, hfr.symm⟩⟩
 have hm : (r.method.toList == [79, 80, 84, 73, 79, 78, 83]) = true := by
  have e := lit_eq r.method optsT
  rw [show optsT.data.toList = [79, 80, 84, 73, 79, 78, 83] from rfl] at e
  rw [e]
  exact decide_eq_true hmo
 have hm' := hm
 have HJN := Lib.hid (fun (W : World) (h : Below w.heap.size w W) => Joined_any FA fc r.fields acrhN W (hF.below h).row hr.fields acrhN_size)
 have HDG := Lib.hid (fun (W : World) (h : Below w.heap.size w W) => Digits_any m.n W HFM.out.n0 HFM.out.n1 (hE.globC h))
 obtain ⟨i0, hi0', hz0', hz1', hz2'⟩ := info_parts info_field
 unfold flightRs at HAI HFX
 dsimp only at HAI HFX
 clear hfr hmo
 have hi0 : (0 : Int) < (m.list.length : Int) := by omega
 have hX0 := Below.refl (X3 w (midC m (some ⟨lb0, lo0, none⟩) c) (rqC r FA fc TA tc)).heap.size (X3 w (midC m (some ⟨lb0, lo0, none⟩) c) (rqC r FA fc TA tc))
 have hWx : Below w.heap.size w (X3 w (midC m (some ⟨lb0, lo0, none⟩) c) (rqC r FA fc TA tc)) := X3_below w _ _
 clear hc hE hP hn0 hN8 hN hA hcap hF hT hm hr hkd h0l
 generalize varyP m = vp at *
 unfold midV rqV at *
 obtain ⟨s, hon, hfs⟩ := hfs
 have HO1 := Lib.hid (fun W h => HON.out originN originN_size W h)
 rw [hon] at HO1
 unfold onlyVal originN at HO1
 have HO2 := Lib.hid (fun W h => HON.out acrmN acrmN_size W h)
 rw [haq] at HO2
 unfold onlyVal acrmN at HO2
 have HCS := Lib.hid (fun W h => HCT.out s W h)
 have HLB := Lib.hid hlb
 unfold acrhN at HJN
 rw [show allV r.fields ⟨#[65, 99, 99, 101, 115, 115, 45, 67, 111, 110, 116, 114, 111, 108, 45, 82, 101, 113, 117, 101, 115, 116, 45, 72, 101, 97, 100, 101, 114, 115]⟩ = allV r.fields acrhN from rfl] at HJN
 generalize itoaT m.n = dg at *
 generalize joinR (allV r.fields acrhN) = js at *
 clear hon HON HCT HC HN0 haq
 by_cases hve : m.value.size = 0
 ·have hve1 := is_empty hve
  have HVB := Lib.hid hve
  clear hve
  by_cases hjb : 0 < (allV r.fields acrhN).length
  ·have HJB := Lib.hid hjb
   rw [show decide (0 < (allV r.fields acrhN).length) = true from decide_eq_true hjb] at HJN
   clear hjb
   rcases hfs with ⟨h1, rfl⟩ | ⟨h1, h2, rfl⟩
   ·rw [h1] at hst
    clear h1 HCS
    go_enter Tryz.func71, Tryz.ntmps71
    go_wp2_with fail
    refine (HO1.out _ hWx).mono ?_
    rintro e w1 ⟨rfl, hb1⟩
    have hb1 : Below (X3 w (midC m (some ⟨lb0, lo0, none⟩) c) (rqC r FA fc TA tc)).heap.size (X3 w (midC m (some ⟨lb0, lo0, none⟩) c) (rqC r FA fc TA tc)) w1 := hb1
    have hlb := Nat.lt_of_lt_of_le hlb (X3_up hb1).size
    obtain ⟨⟨⟨m0, m1, m2, m3, m4⟩, a0, a1, a2, a3, a4, a5, a6⟩, ⟨r0, r1, r2, r3⟩, f0, f1, f2, f3⟩ := X3_facts HL.out (Keep.of (D := D) hb1)
    have hz2 := X3_lt hb1
    have hz1 := Nat.lt_of_succ_lt hz2
    have hz0 := Nat.lt_of_succ_lt hz1
    have hlc1 := HFB.out _ (X3_up hb1)
    have hb2 := hb1.alloc hb1.size (.cells #[.string ⟨#[65, 99, 99, 101, 115, 115, 45, 67, 111, 110, 116, 114, 111, 108, 45, 65, 108, 108, 111, 119, 45, 79, 114, 105, 103, 105, 110]⟩, .string ⟨#[42]⟩] 59)
    go_wp2_with fail
    refine (HO2.out _ (X3_up hb2)).mono ?_
    rintro e w3 ⟨rfl, hb3⟩
    have hbx : Below (w1.heap.size + 1) (w1.alloc (.cells #[.string ⟨#[65, 99, 99, 101, 115, 115, 45, 67, 111, 110, 116, 114, 111, 108, 45, 65, 108, 108, 111, 119, 45, 79, 114, 105, 103, 105, 110]⟩, .string ⟨#[42]⟩] 59)) w3 := by simpa using hb3
    have hb4 := hb2.trans (hb3.mono hb2.size)
    obtain ⟨c0, c1⟩ := cell2 hbx
    have hzx : w1.heap.size < w3.heap.size := box_size hbx
    clear m0 m1 m2 m3 m4 a0 a1 a2 a3 a4 a5 a6 r0 r1 r2 r3 f0 f1 f2 f3 hz2 hz1 hz0 hlc1 hlb hb3 hbx hb2
    have hlb := Nat.lt_of_lt_of_le (HLB.out) (X3_up hb4).size
    obtain ⟨⟨⟨m0, m1, m2, m3, m4⟩, a0, a1, a2, a3, a4, a5, a6⟩, ⟨r0, r1, r2, r3⟩, f0, f1, f2, f3⟩ := X3_facts HL.out (Keep.of (D := D) hb4)
    have hz2 := X3_lt hb4
    have hz1 := Nat.lt_of_succ_lt hz2
    have hz0 := Nat.lt_of_succ_lt hz1
    have hlc1 := HFB.out _ (X3_up hb4)
    have hb5 := hb4.alloc hb4.size (.cells #[.string ⟨#[65, 99, 99, 101, 115, 115, 45, 67, 111, 110, 116, 114, 111, 108, 45, 65, 108, 108, 111, 119, 45, 79, 114, 105, 103, 105, 110]⟩, .string ⟨#[42]⟩, .string ⟨#[65, 99, 99, 101, 115, 115, 45, 67, 111, 110, 116, 114, 111, 108, 45, 65, 108, 108, 111, 119, 45, 77, 101, 116, 104, 111, 100, 115]⟩, .string v] 59)
    have ho5 := lit2 w3 ⟨#[65, 99, 99, 101, 115, 115, 45, 67, 111, 110, 116, 114, 111, 108, 45, 65, 108, 108, 111, 119, 45, 79, 114, 105, 103, 105, 110]⟩ ⟨#[42]⟩ ⟨#[65, 99, 99, 101, 115, 115, 45, 67, 111, 110, 116, 114, 111, 108, 45, 65, 108, 108, 111, 119, 45, 77, 101, 116, 104, 111, 100, 115]⟩ v
    go_wp2_with fail
    refine (HJN.out _ (X3_up hb5)).mono ?_
    rintro e w4 ⟨rfl, hb6⟩
    have hb7 := hb5.trans (hb6.mono hb5.size)
    have ho6 := own_below ho5 hb6
    have hbr : w3.heap.size ≤ w4.heap.size := Nat.le_trans (by simp) hb6.size
    clear m0 m1 m2 m3 m4 a0 a1 a2 a3 a4 a5 a6 r0 r1 r2 r3 f0 f1 f2 f3 hz2 hz1 hz0 hlc1 hlb c0 c1 hzx ho5
    have hlb := Nat.lt_of_lt_of_le (HLB.out) (X3_up hb7).size
    obtain ⟨⟨⟨m0, m1, m2, m3, m4⟩, a0, a1, a2, a3, a4, a5, a6⟩, ⟨r0, r1, r2, r3⟩, f0, f1, f2, f3⟩ := X3_facts HL.out (Keep.of (D := D) hb7)
    have hz2 := X3_lt hb7
    have hz1 := Nat.lt_of_succ_lt hz2
    have hz0 := Nat.lt_of_succ_lt hz1
    have hlc1 := HFB.out _ (X3_up hb7)
    clear hb6 hb5
    have hb8 := hb7.alloc hb7.size (.cells #[.string ⟨#[65, 99, 99, 101, 115, 115, 45, 67, 111, 110, 116, 114, 111, 108, 45, 65, 108, 108, 111, 119, 45, 72, 101, 97, 100, 101, 114, 115]⟩, .string js] 59)
    go_wp2_with (at_builtin; refine wpList_append_any _ rfl _ _ 25 rfl w3.heap.size 59 i0 (.agg #[.string ⟨#[]⟩, .string ⟨#[]⟩]) 2 32 Tryz.underlying25 hi0' hz0' hz1' hz2' rfl (by decide) _ 2 (flat ([(⟨#[65, 99, 99, 101, 115, 115, 45, 67, 111, 110, 116, 114, 111, 108, 45, 65, 108, 108, 111, 119, 45, 79, 114, 105, 103, 105, 110]⟩, ⟨#[42]⟩), (⟨#[65, 99, 99, 101, 115, 115, 45, 67, 111, 110, 116, 114, 111, 108, 45, 65, 108, 108, 111, 119, 45, 77, 101, 116, 104, 111, 100, 115]⟩, v)])) rfl (ho6.alloc _) _ (some ⟨w4.heap.size, 0, none⟩) 1 1 (flat ([(⟨#[65, 99, 99, 101, 115, 115, 45, 67, 111, 110, 116, 114, 111, 108, 45, 65, 108, 108, 111, 119, 45, 72, 101, 97, 100, 101, 114, 115]⟩, js)])) rfl (reads_of_row (row_field w4 ⟨#[65, 99, 99, 101, 115, 115, 45, 67, 111, 110, 116, 114, 111, 108, 45, 65, 108, 108, 111, 119, 45, 72, 101, 97, 100, 101, 114, 115]⟩ js rfl) (flat_length _) (by decide)) ?av1j ?bv1j ?cv1j ?dv1j ?ev1j)
    case av1j => exact flat_oneCell _
    case bv1j => have := HVF.out.2; unfold maxLen; omega
    case cv1j => have := HVF.out.2; omega
    case dv1j => simp; omega
    case ev1j =>
     intro v' w5 hown5 hg5 _
     have ho7 : w5.ownsRow w3.heap.size 59 2 v' 3 (flat ([(⟨#[65, 99, 99, 101, 115, 115, 45, 67, 111, 110, 116, 114, 111, 108, 45, 65, 108, 108, 111, 119, 45, 79, 114, 105, 103, 105, 110]⟩, ⟨#[42]⟩), (⟨#[65, 99, 99, 101, 115, 115, 45, 67, 111, 110, 116, 114, 111, 108, 45, 65, 108, 108, 111, 119, 45, 77, 101, 116, 104, 111, 100, 115]⟩, v)] ++ [(⟨#[65, 99, 99, 101, 115, 115, 45, 67, 111, 110, 116, 114, 111, 108, 45, 65, 108, 108, 111, 119, 45, 72, 101, 97, 100, 101, 114, 115]⟩, js)])) := by rw [flat_append]; exact hown5
     have hb9 : Below (X3 w (midC m (some ⟨lb0, lo0, none⟩) c) (rqC r FA fc TA tc)).heap.size (X3 w (midC m (some ⟨lb0, lo0, none⟩) c) (rqC r FA fc TA tc)) w5 := hb8.grown hg5 (hb8.size) (fun k hk => Nat.le_trans hb4.size (own_lt ho6 k hk))
     have hbr2 : w3.heap.size ≤ w5.heap.size := Nat.le_trans hbr (Nat.le_trans (by simp) hg5.size)
     obtain ⟨A5, c5, rfl⟩ := own_slice ho7
     clear hown5 hg5 ho6 hb8 hbr m0 m1 m2 m3 m4 a0 a1 a2 a3 a4 a5 a6 r0 r1 r2 r3 f0 f1 f2 f3 hz2 hz1 hz0 hlc1 hlb hb7
     have hbr := hbr2
     have hlb := Nat.lt_of_lt_of_le (HLB.out) (X3_up hb9).size
     obtain ⟨⟨⟨m0, m1, m2, m3, m4⟩, a0, a1, a2, a3, a4, a5, a6⟩, ⟨r0, r1, r2, r3⟩, f0, f1, f2, f3⟩ := X3_facts HL.out (Keep.of (D := D) hb9)
     have hz2 := X3_lt hb9
     have hz1 := Nat.lt_of_succ_lt hz2
     have hz0 := Nat.lt_of_succ_lt hz1
     have hlc1 := HFB.out _ (X3_up hb9)
     obtain ⟨l1, hl1⟩ : ∃ x : List Fl, x = [(⟨#[65, 99, 99, 101, 115, 115, 45, 67, 111, 110, 116, 114, 111, 108, 45, 65, 108, 108, 111, 119, 45, 79, 114, 105, 103, 105, 110]⟩, ⟨#[42]⟩), (⟨#[65, 99, 99, 101, 115, 115, 45, 67, 111, 110, 116, 114, 111, 108, 45, 65, 108, 108, 111, 119, 45, 77, 101, 116, 104, 111, 100, 115]⟩, v)] ++ [(⟨#[65, 99, 99, 101, 115, 115, 45, 67, 111, 110, 116, 114, 111, 108, 45, 65, 108, 108, 111, 119, 45, 72, 101, 97, 100, 101, 114, 115]⟩, js)] := ⟨_, rfl⟩
     rw [← hl1] at ho7
     have HL1 := Lib.hid hl1
     clear hl1
     go_wp2_with fail
     refine (HDG.out _ (X3_up hb9)).mono ?_
     rintro e w6 ⟨rfl, hbd⟩
     have hb10 := hb9.trans (hbd.mono hb9.size)
     have ho8 := own_below ho7 hbd
     have hbr3 : w3.heap.size ≤ w6.heap.size := Nat.le_trans hbr hbd.size
     clear hbd ho7 hbr hb9 m0 m1 m2 m3 m4 a0 a1 a2 a3 a4 a5 a6 r0 r1 r2 r3 f0 f1 f2 f3 hz2 hz1 hz0 hlc1 hlb
     have hlb := Nat.lt_of_lt_of_le (HLB.out) (X3_up hb10).size
     obtain ⟨⟨⟨m0, m1, m2, m3, m4⟩, a0, a1, a2, a3, a4, a5, a6⟩, ⟨r0, r1, r2, r3⟩, f0, f1, f2, f3⟩ := X3_facts HL.out (Keep.of (D := D) hb10)
     have hz2 := X3_lt hb10
     have hz1 := Nat.lt_of_succ_lt hz2
     have hz0 := Nat.lt_of_succ_lt hz1
     have hlc1 := HFB.out _ (X3_up hb10)
     have hb11 := hb10.alloc hb10.size (.cells #[.string ⟨#[65, 99, 99, 101, 115, 115, 45, 67, 111, 110, 116, 114, 111, 108, 45, 77, 97, 120, 45, 65, 103, 101]⟩, .string dg] 59)
     go_wp2_with (at_builtin; refine wpList_append_any _ rfl _ _ 25 rfl w3.heap.size 59 i0 (.agg #[.string ⟨#[]⟩, .string ⟨#[]⟩]) 2 32 Tryz.underlying25 hi0' hz0' hz1' hz2' rfl (by decide) _ 3 (flat (l1)) rfl (ho8.alloc _) _ (some ⟨w6.heap.size, 0, none⟩) 1 1 (flat ([(⟨#[65, 99, 99, 101, 115, 115, 45, 67, 111, 110, 116, 114, 111, 108, 45, 77, 97, 120, 45, 65, 103, 101]⟩, dg)])) rfl (reads_of_row (row_field w6 ⟨#[65, 99, 99, 101, 115, 115, 45, 67, 111, 110, 116, 114, 111, 108, 45, 77, 97, 120, 45, 65, 103, 101]⟩ dg rfl) (flat_length _) (by decide)) ?av1d ?bv1d ?cv1d ?dv1d ?ev1d)
     case av1d => exact flat_oneCell _
     case bv1d => have := HVF.out.2; unfold maxLen; omega
     case cv1d => have := HVF.out.2; omega
     case dv1d => simp; omega
     case ev1d =>
      intro v2 w7 hown7 hg7 _
      have ho9 : w7.ownsRow w3.heap.size 59 2 v2 4 (flat (l1 ++ [(⟨#[65, 99, 99, 101, 115, 115, 45, 67, 111, 110, 116, 114, 111, 108, 45, 77, 97, 120, 45, 65, 103, 101]⟩, dg)])) := by rw [flat_append]; exact hown7
      have hb12 : Below (X3 w (midC m (some ⟨lb0, lo0, none⟩) c) (rqC r FA fc TA tc)).heap.size (X3 w (midC m (some ⟨lb0, lo0, none⟩) c) (rqC r FA fc TA tc)) w7 := hb11.grown hg7 (hb11.size) (fun k hk => Nat.le_trans hb4.size (own_lt ho8 k hk))
      have hbr4 : w3.heap.size ≤ w7.heap.size := Nat.le_trans hbr3 (Nat.le_trans (by simp) hg7.size)
      obtain ⟨A7, c7, rfl⟩ := own_slice ho9
      obtain ⟨l2, hl2⟩ : ∃ x : List Fl, x = l1 ++ [(⟨#[65, 99, 99, 101, 115, 115, 45, 67, 111, 110, 116, 114, 111, 108, 45, 77, 97, 120, 45, 65, 103, 101]⟩, dg)] := ⟨_, rfl⟩
      rw [← hl2] at ho9
      have HL2 := Lib.hid hl2
      clear hown7 hg7 ho8 hb11 hbr3 hl2 hb10 m0 m1 m2 m3 m4 a0 a1 a2 a3 a4 a5 a6 r0 r1 r2 r3 f0 f1 f2 f3 hz2 hz1 hz0 hlc1 hlb
      have hlb := Nat.lt_of_lt_of_le (HLB.out) (X3_up hb12).size
      obtain ⟨⟨⟨m0, m1, m2, m3, m4⟩, a0, a1, a2, a3, a4, a5, a6⟩, ⟨r0, r1, r2, r3⟩, f0, f1, f2, f3⟩ := X3_facts HL.out (Keep.of (D := D) hb12)
      have hz2 := X3_lt hb12
      have hz1 := Nat.lt_of_succ_lt hz2
      have hz0 := Nat.lt_of_succ_lt hz1
      have hlc1 := HFB.out _ (X3_up hb12)
      go_wp2_with fail
      refine (HVR.out _ (Keep.of (X3_up hb12))).mono ?_
      rintro e w8 ⟨VA, vc, rfl, hov, hbv⟩
      have hb13 := hb12.trans (hbv.mono hb12.size)
      have ho10 := own_below ho9 hbv
      have hbr5 : w3.heap.size ≤ w8.heap.size := Nat.le_trans hbr4 hbv.size
      have hrv := own_row hov
      clear hbv ho9 hbr4 hov hb12 m0 m1 m2 m3 m4 a0 a1 a2 a3 a4 a5 a6 r0 r1 r2 r3 f0 f1 f2 f3 hz2 hz1 hz0 hlc1 hlb
      have hlb := Nat.lt_of_lt_of_le (HLB.out) (X3_up hb13).size
      obtain ⟨⟨⟨m0, m1, m2, m3, m4⟩, a0, a1, a2, a3, a4, a5, a6⟩, ⟨r0, r1, r2, r3⟩, f0, f1, f2, f3⟩ := X3_facts HL.out (Keep.of (D := D) hb13)
      have hz2 := X3_lt hb13
      have hz1 := Nat.lt_of_succ_lt hz2
      have hz0 := Nat.lt_of_succ_lt hz1
      have hlc1 := HFB.out _ (X3_up hb13)
      go_wp2_with (at_builtin; refine wpList_append_any _ rfl _ _ 25 rfl w3.heap.size 59 i0 (.agg #[.string ⟨#[]⟩, .string ⟨#[]⟩]) 2 32 Tryz.underlying25 hi0' hz0' hz1' hz2' rfl (by decide) _ 4 (flat (l2)) rfl ho10 _ VA vp.length vc (flat (vp)) rfl (reads_of_row hrv (flat_length _) (by decide)) ?av1f ?bv1f ?cv1f ?dv1f ?ev1f)
      case av1f => exact flat_oneCell _
      case bv1f => have := HVF.out.2; unfold maxLen; omega
      case cv1f => have := HVF.out.2; omega
      case dv1f => exact hbr5
      case ev1f =>
       intro v3 w9 hown9 hg9 _
       have ho11 : w9.ownsRow w3.heap.size 59 2 v3 (4 + vp.length) (flat (l2 ++ vp)) := by rw [flat_append]; exact hown9
       have hb14 : Below (X3 w (midC m (some ⟨lb0, lo0, none⟩) c) (rqC r FA fc TA tc)).heap.size (X3 w (midC m (some ⟨lb0, lo0, none⟩) c) (rqC r FA fc TA tc)) w9 := hb13.grown hg9 (hb13.size) (fun k hk => Nat.le_trans hb4.size (own_lt ho10 k hk))
       obtain ⟨A9, c9, rfl⟩ := own_slice ho11
       clear hown9 hg9 ho10 hrv hb13 m0 m1 m2 m3 m4 a0 a1 a2 a3 a4 a5 a6 r0 r1 r2 r3 f0 f1 f2 f3 hz2 hz1 hz0 hlc1 hlb
       have hl2n : l2.length = 4 := by rw [HL2.out, HL1.out]; simp
       have hln : 4 + vp.length = (l2 ++ vp).length := by rw [List.length_append, hl2n]
       have HO := Lib.hid (own_less (b' := (X3 w (midC m (some ⟨lb0, lo0, none⟩) c) (rqC r FA fc TA tc)).heap.size) ho11 hb4.size)
       rw [hln] at HO
       have HLN := Lib.hid hln
       clear hln hl2n ho11
       obtain ⟨⟨⟨r0, r1, r2, r3⟩, f0, f1, f2, f3⟩, hz2⟩ := X3_resF HL.out hX0 (Keep.of hb14)
       have HBW := Lib.hid (X3_up hb14)
       clear hb14 hb4
       have HXE := Lib.hid (show aheadP m r = .inr ⟨204, ⟨#[]⟩, l2 ++ vp, ⟨#[]⟩⟩ by rw [HAI.out, HL2.out, HL1.out, if_pos HJB.out, if_pos HVB.out]; rfl)
       have HFY := Lib.hid (show FitS 8 ⟨204, ⟨#[]⟩, l2 ++ vp, ⟨#[]⟩⟩ by have h := HFX.out; rw [if_pos HJB.out, if_pos HVB.out] at h; rw [HL2.out, HL1.out]; exact h)
       go_wp2
       exact bodyPost_ret (v := rsV ⟨204, ⟨#[]⟩, l2 ++ vp, ⟨#[]⟩⟩ A9 c9) (by simp [results, Tryz.results71, go_sem, rsV, r0, r1, r2, r3, ← HLN.out]) rfl
        (fin_self (b := w.heap.size + 1 + 1) (x := ⟨204, ⟨#[]⟩, l2 ++ vp, ⟨#[]⟩⟩) HL.out hWx (by omega) (by rw [X3_size]; omega) HBW.out HO.out HXE.out (HFY.out.more (by have := HN8.out; omega)) _ _ _ _)
   ·rw [h1] at hst
    rw [h2] at HCS
    clear h1 h2
    go_enter Tryz.func71, Tryz.ntmps71
    go_wp2_with fail
    refine (HO1.out _ hWx).mono ?_
    rintro e w1 ⟨rfl, hb1⟩
    have hb1 : Below (X3 w (midC m (some ⟨lb0, lo0, none⟩) c) (rqC r FA fc TA tc)).heap.size (X3 w (midC m (some ⟨lb0, lo0, none⟩) c) (rqC r FA fc TA tc)) w1 := hb1
    have hlb := Nat.lt_of_lt_of_le hlb (X3_up hb1).size
    obtain ⟨⟨⟨m0, m1, m2, m3, m4⟩, a0, a1, a2, a3, a4, a5, a6⟩, ⟨r0, r1, r2, r3⟩, f0, f1, f2, f3⟩ := X3_facts HL.out (Keep.of (D := D) hb1)
    have hz2 := X3_lt hb1
    have hz1 := Nat.lt_of_succ_lt hz2
    have hz0 := Nat.lt_of_succ_lt hz1
    have hlc1 := HFB.out _ (X3_up hb1)
    go_wp2_with fail
    refine (HCS.out _ (X3_up hb1)).mono ?_
    rintro e w9 ⟨rfl, rfl⟩
    have hb2 := hb1.alloc hb1.size (.cells #[.string ⟨#[65, 99, 99, 101, 115, 115, 45, 67, 111, 110, 116, 114, 111, 108, 45, 65, 108, 108, 111, 119, 45, 79, 114, 105, 103, 105, 110]⟩, .string ov] 59)
    go_wp2_with fail
    refine (HO2.out _ (X3_up hb2)).mono ?_
    rintro e w3 ⟨rfl, hb3⟩
    have hbx : Below (w1.heap.size + 1) (w1.alloc (.cells #[.string ⟨#[65, 99, 99, 101, 115, 115, 45, 67, 111, 110, 116, 114, 111, 108, 45, 65, 108, 108, 111, 119, 45, 79, 114, 105, 103, 105, 110]⟩, .string ov] 59)) w3 := by simpa using hb3
    have hb4 := hb2.trans (hb3.mono hb2.size)
    obtain ⟨c0, c1⟩ := cell2 hbx
    have hzx : w1.heap.size < w3.heap.size := box_size hbx
    clear m0 m1 m2 m3 m4 a0 a1 a2 a3 a4 a5 a6 r0 r1 r2 r3 f0 f1 f2 f3 hz2 hz1 hz0 hlc1 hlb hb3 hbx hb2
    have hlb := Nat.lt_of_lt_of_le (HLB.out) (X3_up hb4).size
    obtain ⟨⟨⟨m0, m1, m2, m3, m4⟩, a0, a1, a2, a3, a4, a5, a6⟩, ⟨r0, r1, r2, r3⟩, f0, f1, f2, f3⟩ := X3_facts HL.out (Keep.of (D := D) hb4)
    have hz2 := X3_lt hb4
    have hz1 := Nat.lt_of_succ_lt hz2
    have hz0 := Nat.lt_of_succ_lt hz1
    have hlc1 := HFB.out _ (X3_up hb4)
    have hb5 := hb4.alloc hb4.size (.cells #[.string ⟨#[65, 99, 99, 101, 115, 115, 45, 67, 111, 110, 116, 114, 111, 108, 45, 65, 108, 108, 111, 119, 45, 79, 114, 105, 103, 105, 110]⟩, .string ov, .string ⟨#[65, 99, 99, 101, 115, 115, 45, 67, 111, 110, 116, 114, 111, 108, 45, 65, 108, 108, 111, 119, 45, 77, 101, 116, 104, 111, 100, 115]⟩, .string v] 59)
    have ho5 := lit2 w3 ⟨#[65, 99, 99, 101, 115, 115, 45, 67, 111, 110, 116, 114, 111, 108, 45, 65, 108, 108, 111, 119, 45, 79, 114, 105, 103, 105, 110]⟩ ov ⟨#[65, 99, 99, 101, 115, 115, 45, 67, 111, 110, 116, 114, 111, 108, 45, 65, 108, 108, 111, 119, 45, 77, 101, 116, 104, 111, 100, 115]⟩ v
    go_wp2_with fail
    refine (HJN.out _ (X3_up hb5)).mono ?_
    rintro e w4 ⟨rfl, hb6⟩
    have hb7 := hb5.trans (hb6.mono hb5.size)
    have ho6 := own_below ho5 hb6
    have hbr : w3.heap.size ≤ w4.heap.size := Nat.le_trans (by simp) hb6.size
    clear m0 m1 m2 m3 m4 a0 a1 a2 a3 a4 a5 a6 r0 r1 r2 r3 f0 f1 f2 f3 hz2 hz1 hz0 hlc1 hlb c0 c1 hzx ho5
    have hlb := Nat.lt_of_lt_of_le (HLB.out) (X3_up hb7).size
    obtain ⟨⟨⟨m0, m1, m2, m3, m4⟩, a0, a1, a2, a3, a4, a5, a6⟩, ⟨r0, r1, r2, r3⟩, f0, f1, f2, f3⟩ := X3_facts HL.out (Keep.of (D := D) hb7)
    have hz2 := X3_lt hb7
    have hz1 := Nat.lt_of_succ_lt hz2
    have hz0 := Nat.lt_of_succ_lt hz1
    have hlc1 := HFB.out _ (X3_up hb7)
    clear hb6 hb5
    have hb8 := hb7.alloc hb7.size (.cells #[.string ⟨#[65, 99, 99, 101, 115, 115, 45, 67, 111, 110, 116, 114, 111, 108, 45, 65, 108, 108, 111, 119, 45, 72, 101, 97, 100, 101, 114, 115]⟩, .string js] 59)
    go_wp2_with (at_builtin; refine wpList_append_any _ rfl _ _ 25 rfl w3.heap.size 59 i0 (.agg #[.string ⟨#[]⟩, .string ⟨#[]⟩]) 2 32 Tryz.underlying25 hi0' hz0' hz1' hz2' rfl (by decide) _ 2 (flat ([(⟨#[65, 99, 99, 101, 115, 115, 45, 67, 111, 110, 116, 114, 111, 108, 45, 65, 108, 108, 111, 119, 45, 79, 114, 105, 103, 105, 110]⟩, ov), (⟨#[65, 99, 99, 101, 115, 115, 45, 67, 111, 110, 116, 114, 111, 108, 45, 65, 108, 108, 111, 119, 45, 77, 101, 116, 104, 111, 100, 115]⟩, v)])) rfl (ho6.alloc _) _ (some ⟨w4.heap.size, 0, none⟩) 1 1 (flat ([(⟨#[65, 99, 99, 101, 115, 115, 45, 67, 111, 110, 116, 114, 111, 108, 45, 65, 108, 108, 111, 119, 45, 72, 101, 97, 100, 101, 114, 115]⟩, js)])) rfl (reads_of_row (row_field w4 ⟨#[65, 99, 99, 101, 115, 115, 45, 67, 111, 110, 116, 114, 111, 108, 45, 65, 108, 108, 111, 119, 45, 72, 101, 97, 100, 101, 114, 115]⟩ js rfl) (flat_length _) (by decide)) ?av2j ?bv2j ?cv2j ?dv2j ?ev2j)
    case av2j => exact flat_oneCell _
    case bv2j => have := HVF.out.2; unfold maxLen; omega
    case cv2j => have := HVF.out.2; omega
    case dv2j => simp; omega
    case ev2j =>
     intro v' w5 hown5 hg5 _
     have ho7 : w5.ownsRow w3.heap.size 59 2 v' 3 (flat ([(⟨#[65, 99, 99, 101, 115, 115, 45, 67, 111, 110, 116, 114, 111, 108, 45, 65, 108, 108, 111, 119, 45, 79, 114, 105, 103, 105, 110]⟩, ov), (⟨#[65, 99, 99, 101, 115, 115, 45, 67, 111, 110, 116, 114, 111, 108, 45, 65, 108, 108, 111, 119, 45, 77, 101, 116, 104, 111, 100, 115]⟩, v)] ++ [(⟨#[65, 99, 99, 101, 115, 115, 45, 67, 111, 110, 116, 114, 111, 108, 45, 65, 108, 108, 111, 119, 45, 72, 101, 97, 100, 101, 114, 115]⟩, js)])) := by rw [flat_append]; exact hown5
     have hb9 : Below (X3 w (midC m (some ⟨lb0, lo0, none⟩) c) (rqC r FA fc TA tc)).heap.size (X3 w (midC m (some ⟨lb0, lo0, none⟩) c) (rqC r FA fc TA tc)) w5 := hb8.grown hg5 (hb8.size) (fun k hk => Nat.le_trans hb4.size (own_lt ho6 k hk))
     have hbr2 : w3.heap.size ≤ w5.heap.size := Nat.le_trans hbr (Nat.le_trans (by simp) hg5.size)
     obtain ⟨A5, c5, rfl⟩ := own_slice ho7
     clear hown5 hg5 ho6 hb8 hbr m0 m1 m2 m3 m4 a0 a1 a2 a3 a4 a5 a6 r0 r1 r2 r3 f0 f1 f2 f3 hz2 hz1 hz0 hlc1 hlb hb7
     have hbr := hbr2
     have hlb := Nat.lt_of_lt_of_le (HLB.out) (X3_up hb9).size
     obtain ⟨⟨⟨m0, m1, m2, m3, m4⟩, a0, a1, a2, a3, a4, a5, a6⟩, ⟨r0, r1, r2, r3⟩, f0, f1, f2, f3⟩ := X3_facts HL.out (Keep.of (D := D) hb9)
     have hz2 := X3_lt hb9
     have hz1 := Nat.lt_of_succ_lt hz2
     have hz0 := Nat.lt_of_succ_lt hz1
     have hlc1 := HFB.out _ (X3_up hb9)
     obtain ⟨l1, hl1⟩ : ∃ x : List Fl, x = [(⟨#[65, 99, 99, 101, 115, 115, 45, 67, 111, 110, 116, 114, 111, 108, 45, 65, 108, 108, 111, 119, 45, 79, 114, 105, 103, 105, 110]⟩, ov), (⟨#[65, 99, 99, 101, 115, 115, 45, 67, 111, 110, 116, 114, 111, 108, 45, 65, 108, 108, 111, 119, 45, 77, 101, 116, 104, 111, 100, 115]⟩, v)] ++ [(⟨#[65, 99, 99, 101, 115, 115, 45, 67, 111, 110, 116, 114, 111, 108, 45, 65, 108, 108, 111, 119, 45, 72, 101, 97, 100, 101, 114, 115]⟩, js)] := ⟨_, rfl⟩
     rw [← hl1] at ho7
     have HL1 := Lib.hid hl1
     clear hl1
     go_wp2_with fail
     refine (HDG.out _ (X3_up hb9)).mono ?_
     rintro e w6 ⟨rfl, hbd⟩
     have hb10 := hb9.trans (hbd.mono hb9.size)
     have ho8 := own_below ho7 hbd
     have hbr3 : w3.heap.size ≤ w6.heap.size := Nat.le_trans hbr hbd.size
     clear hbd ho7 hbr hb9 m0 m1 m2 m3 m4 a0 a1 a2 a3 a4 a5 a6 r0 r1 r2 r3 f0 f1 f2 f3 hz2 hz1 hz0 hlc1 hlb
     have hlb := Nat.lt_of_lt_of_le (HLB.out) (X3_up hb10).size
     obtain ⟨⟨⟨m0, m1, m2, m3, m4⟩, a0, a1, a2, a3, a4, a5, a6⟩, ⟨r0, r1, r2, r3⟩, f0, f1, f2, f3⟩ := X3_facts HL.out (Keep.of (D := D) hb10)
     have hz2 := X3_lt hb10
     have hz1 := Nat.lt_of_succ_lt hz2
     have hz0 := Nat.lt_of_succ_lt hz1
     have hlc1 := HFB.out _ (X3_up hb10)
     have hb11 := hb10.alloc hb10.size (.cells #[.string ⟨#[65, 99, 99, 101, 115, 115, 45, 67, 111, 110, 116, 114, 111, 108, 45, 77, 97, 120, 45, 65, 103, 101]⟩, .string dg] 59)
     go_wp2_with (at_builtin; refine wpList_append_any _ rfl _ _ 25 rfl w3.heap.size 59 i0 (.agg #[.string ⟨#[]⟩, .string ⟨#[]⟩]) 2 32 Tryz.underlying25 hi0' hz0' hz1' hz2' rfl (by decide) _ 3 (flat (l1)) rfl (ho8.alloc _) _ (some ⟨w6.heap.size, 0, none⟩) 1 1 (flat ([(⟨#[65, 99, 99, 101, 115, 115, 45, 67, 111, 110, 116, 114, 111, 108, 45, 77, 97, 120, 45, 65, 103, 101]⟩, dg)])) rfl (reads_of_row (row_field w6 ⟨#[65, 99, 99, 101, 115, 115, 45, 67, 111, 110, 116, 114, 111, 108, 45, 77, 97, 120, 45, 65, 103, 101]⟩ dg rfl) (flat_length _) (by decide)) ?av2d ?bv2d ?cv2d ?dv2d ?ev2d)
     case av2d => exact flat_oneCell _
     case bv2d => have := HVF.out.2; unfold maxLen; omega
     case cv2d => have := HVF.out.2; omega
     case dv2d => simp; omega
     case ev2d =>
      intro v2 w7 hown7 hg7 _
      have ho9 : w7.ownsRow w3.heap.size 59 2 v2 4 (flat (l1 ++ [(⟨#[65, 99, 99, 101, 115, 115, 45, 67, 111, 110, 116, 114, 111, 108, 45, 77, 97, 120, 45, 65, 103, 101]⟩, dg)])) := by rw [flat_append]; exact hown7
      have hb12 : Below (X3 w (midC m (some ⟨lb0, lo0, none⟩) c) (rqC r FA fc TA tc)).heap.size (X3 w (midC m (some ⟨lb0, lo0, none⟩) c) (rqC r FA fc TA tc)) w7 := hb11.grown hg7 (hb11.size) (fun k hk => Nat.le_trans hb4.size (own_lt ho8 k hk))
      have hbr4 : w3.heap.size ≤ w7.heap.size := Nat.le_trans hbr3 (Nat.le_trans (by simp) hg7.size)
      obtain ⟨A7, c7, rfl⟩ := own_slice ho9
      obtain ⟨l2, hl2⟩ : ∃ x : List Fl, x = l1 ++ [(⟨#[65, 99, 99, 101, 115, 115, 45, 67, 111, 110, 116, 114, 111, 108, 45, 77, 97, 120, 45, 65, 103, 101]⟩, dg)] := ⟨_, rfl⟩
      rw [← hl2] at ho9
      have HL2 := Lib.hid hl2
      clear hown7 hg7 ho8 hb11 hbr3 hl2 hb10 m0 m1 m2 m3 m4 a0 a1 a2 a3 a4 a5 a6 r0 r1 r2 r3 f0 f1 f2 f3 hz2 hz1 hz0 hlc1 hlb
      have hlb := Nat.lt_of_lt_of_le (HLB.out) (X3_up hb12).size
      obtain ⟨⟨⟨m0, m1, m2, m3, m4⟩, a0, a1, a2, a3, a4, a5, a6⟩, ⟨r0, r1, r2, r3⟩, f0, f1, f2, f3⟩ := X3_facts HL.out (Keep.of (D := D) hb12)
      have hz2 := X3_lt hb12
      have hz1 := Nat.lt_of_succ_lt hz2
      have hz0 := Nat.lt_of_succ_lt hz1
      have hlc1 := HFB.out _ (X3_up hb12)
      go_wp2_with fail
      refine (HVR.out _ (Keep.of (X3_up hb12))).mono ?_
      rintro e w8 ⟨VA, vc, rfl, hov, hbv⟩
      have hb13 := hb12.trans (hbv.mono hb12.size)
      have ho10 := own_below ho9 hbv
      have hbr5 : w3.heap.size ≤ w8.heap.size := Nat.le_trans hbr4 hbv.size
      have hrv := own_row hov
      clear hbv ho9 hbr4 hov hb12 m0 m1 m2 m3 m4 a0 a1 a2 a3 a4 a5 a6 r0 r1 r2 r3 f0 f1 f2 f3 hz2 hz1 hz0 hlc1 hlb
      have hlb := Nat.lt_of_lt_of_le (HLB.out) (X3_up hb13).size
      obtain ⟨⟨⟨m0, m1, m2, m3, m4⟩, a0, a1, a2, a3, a4, a5, a6⟩, ⟨r0, r1, r2, r3⟩, f0, f1, f2, f3⟩ := X3_facts HL.out (Keep.of (D := D) hb13)
      have hz2 := X3_lt hb13
      have hz1 := Nat.lt_of_succ_lt hz2
      have hz0 := Nat.lt_of_succ_lt hz1
      have hlc1 := HFB.out _ (X3_up hb13)
      go_wp2_with (at_builtin; refine wpList_append_any _ rfl _ _ 25 rfl w3.heap.size 59 i0 (.agg #[.string ⟨#[]⟩, .string ⟨#[]⟩]) 2 32 Tryz.underlying25 hi0' hz0' hz1' hz2' rfl (by decide) _ 4 (flat (l2)) rfl ho10 _ VA vp.length vc (flat (vp)) rfl (reads_of_row hrv (flat_length _) (by decide)) ?av2f ?bv2f ?cv2f ?dv2f ?ev2f)
      case av2f => exact flat_oneCell _
      case bv2f => have := HVF.out.2; unfold maxLen; omega
      case cv2f => have := HVF.out.2; omega
      case dv2f => exact hbr5
      case ev2f =>
       intro v3 w9 hown9 hg9 _
       have ho11 : w9.ownsRow w3.heap.size 59 2 v3 (4 + vp.length) (flat (l2 ++ vp)) := by rw [flat_append]; exact hown9
       have hb14 : Below (X3 w (midC m (some ⟨lb0, lo0, none⟩) c) (rqC r FA fc TA tc)).heap.size (X3 w (midC m (some ⟨lb0, lo0, none⟩) c) (rqC r FA fc TA tc)) w9 := hb13.grown hg9 (hb13.size) (fun k hk => Nat.le_trans hb4.size (own_lt ho10 k hk))
       obtain ⟨A9, c9, rfl⟩ := own_slice ho11
       clear hown9 hg9 ho10 hrv hb13 m0 m1 m2 m3 m4 a0 a1 a2 a3 a4 a5 a6 r0 r1 r2 r3 f0 f1 f2 f3 hz2 hz1 hz0 hlc1 hlb
       have hl2n : l2.length = 4 := by rw [HL2.out, HL1.out]; simp
       have hln : 4 + vp.length = (l2 ++ vp).length := by rw [List.length_append, hl2n]
       have HO := Lib.hid (own_less (b' := (X3 w (midC m (some ⟨lb0, lo0, none⟩) c) (rqC r FA fc TA tc)).heap.size) ho11 hb4.size)
       rw [hln] at HO
       have HLN := Lib.hid hln
       clear hln hl2n ho11
       obtain ⟨⟨⟨r0, r1, r2, r3⟩, f0, f1, f2, f3⟩, hz2⟩ := X3_resF HL.out hX0 (Keep.of hb14)
       have HBW := Lib.hid (X3_up hb14)
       clear hb14 hb4
       have HXE := Lib.hid (show aheadP m r = .inr ⟨204, ⟨#[]⟩, l2 ++ vp, ⟨#[]⟩⟩ by rw [HAI.out, HL2.out, HL1.out, if_pos HJB.out, if_pos HVB.out]; rfl)
       have HFY := Lib.hid (show FitS 8 ⟨204, ⟨#[]⟩, l2 ++ vp, ⟨#[]⟩⟩ by have h := HFX.out; rw [if_pos HJB.out, if_pos HVB.out] at h; rw [HL2.out, HL1.out]; exact h)
       go_wp2
       exact bodyPost_ret (v := rsV ⟨204, ⟨#[]⟩, l2 ++ vp, ⟨#[]⟩⟩ A9 c9) (by simp [results, Tryz.results71, go_sem, rsV, r0, r1, r2, r3, ← HLN.out]) rfl
        (fin_self (b := w.heap.size + 1 + 1) (x := ⟨204, ⟨#[]⟩, l2 ++ vp, ⟨#[]⟩⟩) HL.out hWx (by omega) (by rw [X3_size]; omega) HBW.out HO.out HXE.out (HFY.out.more (by have := HN8.out; omega)) _ _ _ _)
  ·have HJB := Lib.hid hjb
   rw [show decide (0 < (allV r.fields acrhN).length) = false from decide_eq_false hjb] at HJN
   clear hjb
   rcases hfs with ⟨h1, rfl⟩ | ⟨h1, h2, rfl⟩
   ·rw [h1] at hst
    clear h1 HCS
    go_enter Tryz.func71, Tryz.ntmps71
    go_wp2_with fail
    refine (HO1.out _ hWx).mono ?_
    rintro e w1 ⟨rfl, hb1⟩
    have hb1 : Below (X3 w (midC m (some ⟨lb0, lo0, none⟩) c) (rqC r FA fc TA tc)).heap.size (X3 w (midC m (some ⟨lb0, lo0, none⟩) c) (rqC r FA fc TA tc)) w1 := hb1
    have hlb := Nat.lt_of_lt_of_le hlb (X3_up hb1).size
    obtain ⟨⟨⟨m0, m1, m2, m3, m4⟩, a0, a1, a2, a3, a4, a5, a6⟩, ⟨r0, r1, r2, r3⟩, f0, f1, f2, f3⟩ := X3_facts HL.out (Keep.of (D := D) hb1)
    have hz2 := X3_lt hb1
    have hz1 := Nat.lt_of_succ_lt hz2
    have hz0 := Nat.lt_of_succ_lt hz1
    have hlc1 := HFB.out _ (X3_up hb1)
    have hb2 := hb1.alloc hb1.size (.cells #[.string ⟨#[65, 99, 99, 101, 115, 115, 45, 67, 111, 110, 116, 114, 111, 108, 45, 65, 108, 108, 111, 119, 45, 79, 114, 105, 103, 105, 110]⟩, .string ⟨#[42]⟩] 59)
    go_wp2_with fail
    refine (HO2.out _ (X3_up hb2)).mono ?_
    rintro e w3 ⟨rfl, hb3⟩
    have hbx : Below (w1.heap.size + 1) (w1.alloc (.cells #[.string ⟨#[65, 99, 99, 101, 115, 115, 45, 67, 111, 110, 116, 114, 111, 108, 45, 65, 108, 108, 111, 119, 45, 79, 114, 105, 103, 105, 110]⟩, .string ⟨#[42]⟩] 59)) w3 := by simpa using hb3
    have hb4 := hb2.trans (hb3.mono hb2.size)
    obtain ⟨c0, c1⟩ := cell2 hbx
    have hzx : w1.heap.size < w3.heap.size := box_size hbx
    clear m0 m1 m2 m3 m4 a0 a1 a2 a3 a4 a5 a6 r0 r1 r2 r3 f0 f1 f2 f3 hz2 hz1 hz0 hlc1 hlb hb3 hbx hb2
    have hlb := Nat.lt_of_lt_of_le (HLB.out) (X3_up hb4).size
    obtain ⟨⟨⟨m0, m1, m2, m3, m4⟩, a0, a1, a2, a3, a4, a5, a6⟩, ⟨r0, r1, r2, r3⟩, f0, f1, f2, f3⟩ := X3_facts HL.out (Keep.of (D := D) hb4)
    have hz2 := X3_lt hb4
    have hz1 := Nat.lt_of_succ_lt hz2
    have hz0 := Nat.lt_of_succ_lt hz1
    have hlc1 := HFB.out _ (X3_up hb4)
    have hb5 := hb4.alloc hb4.size (.cells #[.string ⟨#[65, 99, 99, 101, 115, 115, 45, 67, 111, 110, 116, 114, 111, 108, 45, 65, 108, 108, 111, 119, 45, 79, 114, 105, 103, 105, 110]⟩, .string ⟨#[42]⟩, .string ⟨#[65, 99, 99, 101, 115, 115, 45, 67, 111, 110, 116, 114, 111, 108, 45, 65, 108, 108, 111, 119, 45, 77, 101, 116, 104, 111, 100, 115]⟩, .string v] 59)
    have ho5 := lit2 w3 ⟨#[65, 99, 99, 101, 115, 115, 45, 67, 111, 110, 116, 114, 111, 108, 45, 65, 108, 108, 111, 119, 45, 79, 114, 105, 103, 105, 110]⟩ ⟨#[42]⟩ ⟨#[65, 99, 99, 101, 115, 115, 45, 67, 111, 110, 116, 114, 111, 108, 45, 65, 108, 108, 111, 119, 45, 77, 101, 116, 104, 111, 100, 115]⟩ v
    go_wp2_with fail
    refine (HJN.out _ (X3_up hb5)).mono ?_
    rintro e w4 ⟨rfl, hb6⟩
    have hb7 := hb5.trans (hb6.mono hb5.size)
    have ho6 := own_below ho5 hb6
    have hbr : w3.heap.size ≤ w4.heap.size := Nat.le_trans (by simp) hb6.size
    clear m0 m1 m2 m3 m4 a0 a1 a2 a3 a4 a5 a6 r0 r1 r2 r3 f0 f1 f2 f3 hz2 hz1 hz0 hlc1 hlb c0 c1 hzx ho5
    have hlb := Nat.lt_of_lt_of_le (HLB.out) (X3_up hb7).size
    obtain ⟨⟨⟨m0, m1, m2, m3, m4⟩, a0, a1, a2, a3, a4, a5, a6⟩, ⟨r0, r1, r2, r3⟩, f0, f1, f2, f3⟩ := X3_facts HL.out (Keep.of (D := D) hb7)
    have hz2 := X3_lt hb7
    have hz1 := Nat.lt_of_succ_lt hz2
    have hz0 := Nat.lt_of_succ_lt hz1
    have hlc1 := HFB.out _ (X3_up hb7)
    clear hb6 hb5
    obtain ⟨l1, hl1⟩ : ∃ x : List Fl, x = [(⟨#[65, 99, 99, 101, 115, 115, 45, 67, 111, 110, 116, 114, 111, 108, 45, 65, 108, 108, 111, 119, 45, 79, 114, 105, 103, 105, 110]⟩, ⟨#[42]⟩), (⟨#[65, 99, 99, 101, 115, 115, 45, 67, 111, 110, 116, 114, 111, 108, 45, 65, 108, 108, 111, 119, 45, 77, 101, 116, 104, 111, 100, 115]⟩, v)] := ⟨_, rfl⟩
    rw [← hl1] at ho6
    have HL1 := Lib.hid hl1
    clear hl1
    go_wp2_with fail
    refine (HDG.out _ (X3_up hb7)).mono ?_
    rintro e w6 ⟨rfl, hbd⟩
    have hb10 := hb7.trans (hbd.mono hb7.size)
    have ho8 := own_below ho6 hbd
    have hbr3 : w3.heap.size ≤ w6.heap.size := Nat.le_trans hbr hbd.size
    clear hbd ho6 hbr hb7 m0 m1 m2 m3 m4 a0 a1 a2 a3 a4 a5 a6 r0 r1 r2 r3 f0 f1 f2 f3 hz2 hz1 hz0 hlc1 hlb
    have hlb := Nat.lt_of_lt_of_le (HLB.out) (X3_up hb10).size
    obtain ⟨⟨⟨m0, m1, m2, m3, m4⟩, a0, a1, a2, a3, a4, a5, a6⟩, ⟨r0, r1, r2, r3⟩, f0, f1, f2, f3⟩ := X3_facts HL.out (Keep.of (D := D) hb10)
    have hz2 := X3_lt hb10
    have hz1 := Nat.lt_of_succ_lt hz2
    have hz0 := Nat.lt_of_succ_lt hz1
    have hlc1 := HFB.out _ (X3_up hb10)
    have hb11 := hb10.alloc hb10.size (.cells #[.string ⟨#[65, 99, 99, 101, 115, 115, 45, 67, 111, 110, 116, 114, 111, 108, 45, 77, 97, 120, 45, 65, 103, 101]⟩, .string dg] 59)
    go_wp2_with (at_builtin; refine wpList_append_any _ rfl _ _ 25 rfl w3.heap.size 59 i0 (.agg #[.string ⟨#[]⟩, .string ⟨#[]⟩]) 2 32 Tryz.underlying25 hi0' hz0' hz1' hz2' rfl (by decide) _ 2 (flat (l1)) rfl (ho8.alloc _) _ (some ⟨w6.heap.size, 0, none⟩) 1 1 (flat ([(⟨#[65, 99, 99, 101, 115, 115, 45, 67, 111, 110, 116, 114, 111, 108, 45, 77, 97, 120, 45, 65, 103, 101]⟩, dg)])) rfl (reads_of_row (row_field w6 ⟨#[65, 99, 99, 101, 115, 115, 45, 67, 111, 110, 116, 114, 111, 108, 45, 77, 97, 120, 45, 65, 103, 101]⟩ dg rfl) (flat_length _) (by decide)) ?av3d ?bv3d ?cv3d ?dv3d ?ev3d)
    case av3d => exact flat_oneCell _
    case bv3d => have := HVF.out.2; unfold maxLen; omega
    case cv3d => have := HVF.out.2; omega
    case dv3d => simp; omega
    case ev3d =>
     intro v2 w7 hown7 hg7 _
     have ho9 : w7.ownsRow w3.heap.size 59 2 v2 3 (flat (l1 ++ [(⟨#[65, 99, 99, 101, 115, 115, 45, 67, 111, 110, 116, 114, 111, 108, 45, 77, 97, 120, 45, 65, 103, 101]⟩, dg)])) := by rw [flat_append]; exact hown7
     have hb12 : Below (X3 w (midC m (some ⟨lb0, lo0, none⟩) c) (rqC r FA fc TA tc)).heap.size (X3 w (midC m (some ⟨lb0, lo0, none⟩) c) (rqC r FA fc TA tc)) w7 := hb11.grown hg7 (hb11.size) (fun k hk => Nat.le_trans hb4.size (own_lt ho8 k hk))
     have hbr4 : w3.heap.size ≤ w7.heap.size := Nat.le_trans hbr3 (Nat.le_trans (by simp) hg7.size)
     obtain ⟨A7, c7, rfl⟩ := own_slice ho9
     obtain ⟨l2, hl2⟩ : ∃ x : List Fl, x = l1 ++ [(⟨#[65, 99, 99, 101, 115, 115, 45, 67, 111, 110, 116, 114, 111, 108, 45, 77, 97, 120, 45, 65, 103, 101]⟩, dg)] := ⟨_, rfl⟩
     rw [← hl2] at ho9
     have HL2 := Lib.hid hl2
     clear hown7 hg7 ho8 hb11 hbr3 hl2 hb10 m0 m1 m2 m3 m4 a0 a1 a2 a3 a4 a5 a6 r0 r1 r2 r3 f0 f1 f2 f3 hz2 hz1 hz0 hlc1 hlb
     have hlb := Nat.lt_of_lt_of_le (HLB.out) (X3_up hb12).size
     obtain ⟨⟨⟨m0, m1, m2, m3, m4⟩, a0, a1, a2, a3, a4, a5, a6⟩, ⟨r0, r1, r2, r3⟩, f0, f1, f2, f3⟩ := X3_facts HL.out (Keep.of (D := D) hb12)
     have hz2 := X3_lt hb12
     have hz1 := Nat.lt_of_succ_lt hz2
     have hz0 := Nat.lt_of_succ_lt hz1
     have hlc1 := HFB.out _ (X3_up hb12)
     go_wp2_with fail
     refine (HVR.out _ (Keep.of (X3_up hb12))).mono ?_
     rintro e w8 ⟨VA, vc, rfl, hov, hbv⟩
     have hb13 := hb12.trans (hbv.mono hb12.size)
     have ho10 := own_below ho9 hbv
     have hbr5 : w3.heap.size ≤ w8.heap.size := Nat.le_trans hbr4 hbv.size
     have hrv := own_row hov
     clear hbv ho9 hbr4 hov hb12 m0 m1 m2 m3 m4 a0 a1 a2 a3 a4 a5 a6 r0 r1 r2 r3 f0 f1 f2 f3 hz2 hz1 hz0 hlc1 hlb
     have hlb := Nat.lt_of_lt_of_le (HLB.out) (X3_up hb13).size
     obtain ⟨⟨⟨m0, m1, m2, m3, m4⟩, a0, a1, a2, a3, a4, a5, a6⟩, ⟨r0, r1, r2, r3⟩, f0, f1, f2, f3⟩ := X3_facts HL.out (Keep.of (D := D) hb13)
     have hz2 := X3_lt hb13
     have hz1 := Nat.lt_of_succ_lt hz2
     have hz0 := Nat.lt_of_succ_lt hz1
     have hlc1 := HFB.out _ (X3_up hb13)
     go_wp2_with (at_builtin; refine wpList_append_any _ rfl _ _ 25 rfl w3.heap.size 59 i0 (.agg #[.string ⟨#[]⟩, .string ⟨#[]⟩]) 2 32 Tryz.underlying25 hi0' hz0' hz1' hz2' rfl (by decide) _ 3 (flat (l2)) rfl ho10 _ VA vp.length vc (flat (vp)) rfl (reads_of_row hrv (flat_length _) (by decide)) ?av3f ?bv3f ?cv3f ?dv3f ?ev3f)
     case av3f => exact flat_oneCell _
     case bv3f => have := HVF.out.2; unfold maxLen; omega
     case cv3f => have := HVF.out.2; omega
     case dv3f => exact hbr5
     case ev3f =>
      intro v3 w9 hown9 hg9 _
      have ho11 : w9.ownsRow w3.heap.size 59 2 v3 (3 + vp.length) (flat (l2 ++ vp)) := by rw [flat_append]; exact hown9
      have hb14 : Below (X3 w (midC m (some ⟨lb0, lo0, none⟩) c) (rqC r FA fc TA tc)).heap.size (X3 w (midC m (some ⟨lb0, lo0, none⟩) c) (rqC r FA fc TA tc)) w9 := hb13.grown hg9 (hb13.size) (fun k hk => Nat.le_trans hb4.size (own_lt ho10 k hk))
      obtain ⟨A9, c9, rfl⟩ := own_slice ho11
      clear hown9 hg9 ho10 hrv hb13 m0 m1 m2 m3 m4 a0 a1 a2 a3 a4 a5 a6 r0 r1 r2 r3 f0 f1 f2 f3 hz2 hz1 hz0 hlc1 hlb
      have hl2n : l2.length = 3 := by rw [HL2.out, HL1.out]; simp
      have hln : 3 + vp.length = (l2 ++ vp).length := by rw [List.length_append, hl2n]
      have HO := Lib.hid (own_less (b' := (X3 w (midC m (some ⟨lb0, lo0, none⟩) c) (rqC r FA fc TA tc)).heap.size) ho11 hb4.size)
      rw [hln] at HO
      have HLN := Lib.hid hln
      clear hln hl2n ho11
      obtain ⟨⟨⟨r0, r1, r2, r3⟩, f0, f1, f2, f3⟩, hz2⟩ := X3_resF HL.out hX0 (Keep.of hb14)
      have HBW := Lib.hid (X3_up hb14)
      clear hb14 hb4
      have HXE := Lib.hid (show aheadP m r = .inr ⟨204, ⟨#[]⟩, l2 ++ vp, ⟨#[]⟩⟩ by rw [HAI.out, HL2.out, HL1.out, if_neg HJB.out, if_pos HVB.out]; rfl)
      have HFY := Lib.hid (show FitS 8 ⟨204, ⟨#[]⟩, l2 ++ vp, ⟨#[]⟩⟩ by have h := HFX.out; rw [if_neg HJB.out, if_pos HVB.out] at h; rw [HL2.out, HL1.out]; exact h)
      go_wp2
      exact bodyPost_ret (v := rsV ⟨204, ⟨#[]⟩, l2 ++ vp, ⟨#[]⟩⟩ A9 c9) (by simp [results, Tryz.results71, go_sem, rsV, r0, r1, r2, r3, ← HLN.out]) rfl
       (fin_self (b := w.heap.size + 1 + 1) (x := ⟨204, ⟨#[]⟩, l2 ++ vp, ⟨#[]⟩⟩) HL.out hWx (by omega) (by rw [X3_size]; omega) HBW.out HO.out HXE.out (HFY.out.more (by have := HN8.out; omega)) _ _ _ _)
   ·rw [h1] at hst
    rw [h2] at HCS
    clear h1 h2
    go_enter Tryz.func71, Tryz.ntmps71
    go_wp2_with fail
    refine (HO1.out _ hWx).mono ?_
    rintro e w1 ⟨rfl, hb1⟩
    have hb1 : Below (X3 w (midC m (some ⟨lb0, lo0, none⟩) c) (rqC r FA fc TA tc)).heap.size (X3 w (midC m (some ⟨lb0, lo0, none⟩) c) (rqC r FA fc TA tc)) w1 := hb1
    have hlb := Nat.lt_of_lt_of_le hlb (X3_up hb1).size
    obtain ⟨⟨⟨m0, m1, m2, m3, m4⟩, a0, a1, a2, a3, a4, a5, a6⟩, ⟨r0, r1, r2, r3⟩, f0, f1, f2, f3⟩ := X3_facts HL.out (Keep.of (D := D) hb1)
    have hz2 := X3_lt hb1
    have hz1 := Nat.lt_of_succ_lt hz2
    have hz0 := Nat.lt_of_succ_lt hz1
    have hlc1 := HFB.out _ (X3_up hb1)
    go_wp2_with fail
    refine (HCS.out _ (X3_up hb1)).mono ?_
    rintro e w9 ⟨rfl, rfl⟩
    have hb2 := hb1.alloc hb1.size (.cells #[.string ⟨#[65, 99, 99, 101, 115, 115, 45, 67, 111, 110, 116, 114, 111, 108, 45, 65, 108, 108, 111, 119, 45, 79, 114, 105, 103, 105, 110]⟩, .string ov] 59)
    go_wp2_with fail
    refine (HO2.out _ (X3_up hb2)).mono ?_
    rintro e w3 ⟨rfl, hb3⟩
    have hbx : Below (w1.heap.size + 1) (w1.alloc (.cells #[.string ⟨#[65, 99, 99, 101, 115, 115, 45, 67, 111, 110, 116, 114, 111, 108, 45, 65, 108, 108, 111, 119, 45, 79, 114, 105, 103, 105, 110]⟩, .string ov] 59)) w3 := by simpa using hb3
    have hb4 := hb2.trans (hb3.mono hb2.size)
    obtain ⟨c0, c1⟩ := cell2 hbx
    have hzx : w1.heap.size < w3.heap.size := box_size hbx
    clear m0 m1 m2 m3 m4 a0 a1 a2 a3 a4 a5 a6 r0 r1 r2 r3 f0 f1 f2 f3 hz2 hz1 hz0 hlc1 hlb hb3 hbx hb2
    have hlb := Nat.lt_of_lt_of_le (HLB.out) (X3_up hb4).size
    obtain ⟨⟨⟨m0, m1, m2, m3, m4⟩, a0, a1, a2, a3, a4, a5, a6⟩, ⟨r0, r1, r2, r3⟩, f0, f1, f2, f3⟩ := X3_facts HL.out (Keep.of (D := D) hb4)
    have hz2 := X3_lt hb4
    have hz1 := Nat.lt_of_succ_lt hz2
    have hz0 := Nat.lt_of_succ_lt hz1
    have hlc1 := HFB.out _ (X3_up hb4)
    have hb5 := hb4.alloc hb4.size (.cells #[.string ⟨#[65, 99, 99, 101, 115, 115, 45, 67, 111, 110, 116, 114, 111, 108, 45, 65, 108, 108, 111, 119, 45, 79, 114, 105, 103, 105, 110]⟩, .string ov, .string ⟨#[65, 99, 99, 101, 115, 115, 45, 67, 111, 110, 116, 114, 111, 108, 45, 65, 108, 108, 111, 119, 45, 77, 101, 116, 104, 111, 100, 115]⟩, .string v] 59)
    have ho5 := lit2 w3 ⟨#[65, 99, 99, 101, 115, 115, 45, 67, 111, 110, 116, 114, 111, 108, 45, 65, 108, 108, 111, 119, 45, 79, 114, 105, 103, 105, 110]⟩ ov ⟨#[65, 99, 99, 101, 115, 115, 45, 67, 111, 110, 116, 114, 111, 108, 45, 65, 108, 108, 111, 119, 45, 77, 101, 116, 104, 111, 100, 115]⟩ v
    go_wp2_with fail
    refine (HJN.out _ (X3_up hb5)).mono ?_
    rintro e w4 ⟨rfl, hb6⟩
    have hb7 := hb5.trans (hb6.mono hb5.size)
    have ho6 := own_below ho5 hb6
    have hbr : w3.heap.size ≤ w4.heap.size := Nat.le_trans (by simp) hb6.size
    clear m0 m1 m2 m3 m4 a0 a1 a2 a3 a4 a5 a6 r0 r1 r2 r3 f0 f1 f2 f3 hz2 hz1 hz0 hlc1 hlb c0 c1 hzx ho5
    have hlb := Nat.lt_of_lt_of_le (HLB.out) (X3_up hb7).size
    obtain ⟨⟨⟨m0, m1, m2, m3, m4⟩, a0, a1, a2, a3, a4, a5, a6⟩, ⟨r0, r1, r2, r3⟩, f0, f1, f2, f3⟩ := X3_facts HL.out (Keep.of (D := D) hb7)
    have hz2 := X3_lt hb7
    have hz1 := Nat.lt_of_succ_lt hz2
    have hz0 := Nat.lt_of_succ_lt hz1
    have hlc1 := HFB.out _ (X3_up hb7)
    clear hb6 hb5
    obtain ⟨l1, hl1⟩ : ∃ x : List Fl, x = [(⟨#[65, 99, 99, 101, 115, 115, 45, 67, 111, 110, 116, 114, 111, 108, 45, 65, 108, 108, 111, 119, 45, 79, 114, 105, 103, 105, 110]⟩, ov), (⟨#[65, 99, 99, 101, 115, 115, 45, 67, 111, 110, 116, 114, 111, 108, 45, 65, 108, 108, 111, 119, 45, 77, 101, 116, 104, 111, 100, 115]⟩, v)] := ⟨_, rfl⟩
    rw [← hl1] at ho6
    have HL1 := Lib.hid hl1
    clear hl1
    go_wp2_with fail
    refine (HDG.out _ (X3_up hb7)).mono ?_
    rintro e w6 ⟨rfl, hbd⟩
    have hb10 := hb7.trans (hbd.mono hb7.size)
    have ho8 := own_below ho6 hbd
    have hbr3 : w3.heap.size ≤ w6.heap.size := Nat.le_trans hbr hbd.size
    clear hbd ho6 hbr hb7 m0 m1 m2 m3 m4 a0 a1 a2 a3 a4 a5 a6 r0 r1 r2 r3 f0 f1 f2 f3 hz2 hz1 hz0 hlc1 hlb
    have hlb := Nat.lt_of_lt_of_le (HLB.out) (X3_up hb10).size
    obtain ⟨⟨⟨m0, m1, m2, m3, m4⟩, a0, a1, a2, a3, a4, a5, a6⟩, ⟨r0, r1, r2, r3⟩, f0, f1, f2, f3⟩ := X3_facts HL.out (Keep.of (D := D) hb10)
    have hz2 := X3_lt hb10
    have hz1 := Nat.lt_of_succ_lt hz2
    have hz0 := Nat.lt_of_succ_lt hz1
    have hlc1 := HFB.out _ (X3_up hb10)
    have hb11 := hb10.alloc hb10.size (.cells #[.string ⟨#[65, 99, 99, 101, 115, 115, 45, 67, 111, 110, 116, 114, 111, 108, 45, 77, 97, 120, 45, 65, 103, 101]⟩, .string dg] 59)
    go_wp2_with (at_builtin; refine wpList_append_any _ rfl _ _ 25 rfl w3.heap.size 59 i0 (.agg #[.string ⟨#[]⟩, .string ⟨#[]⟩]) 2 32 Tryz.underlying25 hi0' hz0' hz1' hz2' rfl (by decide) _ 2 (flat (l1)) rfl (ho8.alloc _) _ (some ⟨w6.heap.size, 0, none⟩) 1 1 (flat ([(⟨#[65, 99, 99, 101, 115, 115, 45, 67, 111, 110, 116, 114, 111, 108, 45, 77, 97, 120, 45, 65, 103, 101]⟩, dg)])) rfl (reads_of_row (row_field w6 ⟨#[65, 99, 99, 101, 115, 115, 45, 67, 111, 110, 116, 114, 111, 108, 45, 77, 97, 120, 45, 65, 103, 101]⟩ dg rfl) (flat_length _) (by decide)) ?av4d ?bv4d ?cv4d ?dv4d ?ev4d)
    case av4d => exact flat_oneCell _
    case bv4d => have := HVF.out.2; unfold maxLen; omega
    case cv4d => have := HVF.out.2; omega
    case dv4d => simp; omega
    case ev4d =>
     intro v2 w7 hown7 hg7 _
     have ho9 : w7.ownsRow w3.heap.size 59 2 v2 3 (flat (l1 ++ [(⟨#[65, 99, 99, 101, 115, 115, 45, 67, 111, 110, 116, 114, 111, 108, 45, 77, 97, 120, 45, 65, 103, 101]⟩, dg)])) := by rw [flat_append]; exact hown7
     have hb12 : Below (X3 w (midC m (some ⟨lb0, lo0, none⟩) c) (rqC r FA fc TA tc)).heap.size (X3 w (midC m (some ⟨lb0, lo0, none⟩) c) (rqC r FA fc TA tc)) w7 := hb11.grown hg7 (hb11.size) (fun k hk => Nat.le_trans hb4.size (own_lt ho8 k hk))
     have hbr4 : w3.heap.size ≤ w7.heap.size := Nat.le_trans hbr3 (Nat.le_trans (by simp) hg7.size)
     obtain ⟨A7, c7, rfl⟩ := own_slice ho9
     obtain ⟨l2, hl2⟩ : ∃ x : List Fl, x = l1 ++ [(⟨#[65, 99, 99, 101, 115, 115, 45, 67, 111, 110, 116, 114, 111, 108, 45, 77, 97, 120, 45, 65, 103, 101]⟩, dg)] := ⟨_, rfl⟩
     rw [← hl2] at ho9
     have HL2 := Lib.hid hl2
     clear hown7 hg7 ho8 hb11 hbr3 hl2 hb10 m0 m1 m2 m3 m4 a0 a1 a2 a3 a4 a5 a6 r0 r1 r2 r3 f0 f1 f2 f3 hz2 hz1 hz0 hlc1 hlb
     have hlb := Nat.lt_of_lt_of_le (HLB.out) (X3_up hb12).size
     obtain ⟨⟨⟨m0, m1, m2, m3, m4⟩, a0, a1, a2, a3, a4, a5, a6⟩, ⟨r0, r1, r2, r3⟩, f0, f1, f2, f3⟩ := X3_facts HL.out (Keep.of (D := D) hb12)
     have hz2 := X3_lt hb12
     have hz1 := Nat.lt_of_succ_lt hz2
     have hz0 := Nat.lt_of_succ_lt hz1
     have hlc1 := HFB.out _ (X3_up hb12)
     go_wp2_with fail
     refine (HVR.out _ (Keep.of (X3_up hb12))).mono ?_
     rintro e w8 ⟨VA, vc, rfl, hov, hbv⟩
     have hb13 := hb12.trans (hbv.mono hb12.size)
     have ho10 := own_below ho9 hbv
     have hbr5 : w3.heap.size ≤ w8.heap.size := Nat.le_trans hbr4 hbv.size
     have hrv := own_row hov
     clear hbv ho9 hbr4 hov hb12 m0 m1 m2 m3 m4 a0 a1 a2 a3 a4 a5 a6 r0 r1 r2 r3 f0 f1 f2 f3 hz2 hz1 hz0 hlc1 hlb
     have hlb := Nat.lt_of_lt_of_le (HLB.out) (X3_up hb13).size
     obtain ⟨⟨⟨m0, m1, m2, m3, m4⟩, a0, a1, a2, a3, a4, a5, a6⟩, ⟨r0, r1, r2, r3⟩, f0, f1, f2, f3⟩ := X3_facts HL.out (Keep.of (D := D) hb13)
     have hz2 := X3_lt hb13
     have hz1 := Nat.lt_of_succ_lt hz2
     have hz0 := Nat.lt_of_succ_lt hz1
     have hlc1 := HFB.out _ (X3_up hb13)
     go_wp2_with (at_builtin; refine wpList_append_any _ rfl _ _ 25 rfl w3.heap.size 59 i0 (.agg #[.string ⟨#[]⟩, .string ⟨#[]⟩]) 2 32 Tryz.underlying25 hi0' hz0' hz1' hz2' rfl (by decide) _ 3 (flat (l2)) rfl ho10 _ VA vp.length vc (flat (vp)) rfl (reads_of_row hrv (flat_length _) (by decide)) ?av4f ?bv4f ?cv4f ?dv4f ?ev4f)
     case av4f => exact flat_oneCell _
     case bv4f => have := HVF.out.2; unfold maxLen; omega
     case cv4f => have := HVF.out.2; omega
     case dv4f => exact hbr5
     case ev4f =>
      intro v3 w9 hown9 hg9 _
      have ho11 : w9.ownsRow w3.heap.size 59 2 v3 (3 + vp.length) (flat (l2 ++ vp)) := by rw [flat_append]; exact hown9
      have hb14 : Below (X3 w (midC m (some ⟨lb0, lo0, none⟩) c) (rqC r FA fc TA tc)).heap.size (X3 w (midC m (some ⟨lb0, lo0, none⟩) c) (rqC r FA fc TA tc)) w9 := hb13.grown hg9 (hb13.size) (fun k hk => Nat.le_trans hb4.size (own_lt ho10 k hk))
      obtain ⟨A9, c9, rfl⟩ := own_slice ho11
      clear hown9 hg9 ho10 hrv hb13 m0 m1 m2 m3 m4 a0 a1 a2 a3 a4 a5 a6 r0 r1 r2 r3 f0 f1 f2 f3 hz2 hz1 hz0 hlc1 hlb
      have hl2n : l2.length = 3 := by rw [HL2.out, HL1.out]; simp
      have hln : 3 + vp.length = (l2 ++ vp).length := by rw [List.length_append, hl2n]
      have HO := Lib.hid (own_less (b' := (X3 w (midC m (some ⟨lb0, lo0, none⟩) c) (rqC r FA fc TA tc)).heap.size) ho11 hb4.size)
      rw [hln] at HO
      have HLN := Lib.hid hln
      clear hln hl2n ho11
      obtain ⟨⟨⟨r0, r1, r2, r3⟩, f0, f1, f2, f3⟩, hz2⟩ := X3_resF HL.out hX0 (Keep.of hb14)
      have HBW := Lib.hid (X3_up hb14)
      clear hb14 hb4
      have HXE := Lib.hid (show aheadP m r = .inr ⟨204, ⟨#[]⟩, l2 ++ vp, ⟨#[]⟩⟩ by rw [HAI.out, HL2.out, HL1.out, if_neg HJB.out, if_pos HVB.out]; rfl)
      have HFY := Lib.hid (show FitS 8 ⟨204, ⟨#[]⟩, l2 ++ vp, ⟨#[]⟩⟩ by have h := HFX.out; rw [if_neg HJB.out, if_pos HVB.out] at h; rw [HL2.out, HL1.out]; exact h)
      go_wp2
      exact bodyPost_ret (v := rsV ⟨204, ⟨#[]⟩, l2 ++ vp, ⟨#[]⟩⟩ A9 c9) (by simp [results, Tryz.results71, go_sem, rsV, r0, r1, r2, r3, ← HLN.out]) rfl
       (fin_self (b := w.heap.size + 1 + 1) (x := ⟨204, ⟨#[]⟩, l2 ++ vp, ⟨#[]⟩⟩) HL.out hWx (by omega) (by rw [X3_size]; omega) HBW.out HO.out HXE.out (HFY.out.more (by have := HN8.out; omega)) _ _ _ _)
 ·have hve1 := not_empty hve
  have HVB := Lib.hid hve
  clear hve
  by_cases hjb : 0 < (allV r.fields acrhN).length
  ·have HJB := Lib.hid hjb
   rw [show decide (0 < (allV r.fields acrhN).length) = true from decide_eq_true hjb] at HJN
   clear hjb
   rcases hfs with ⟨h1, rfl⟩ | ⟨h1, h2, rfl⟩
   ·rw [h1] at hst
    clear h1 HCS
    go_enter Tryz.func71, Tryz.ntmps71
    go_wp2_with fail
    refine (HO1.out _ hWx).mono ?_
    rintro e w1 ⟨rfl, hb1⟩
    have hb1 : Below (X3 w (midC m (some ⟨lb0, lo0, none⟩) c) (rqC r FA fc TA tc)).heap.size (X3 w (midC m (some ⟨lb0, lo0, none⟩) c) (rqC r FA fc TA tc)) w1 := hb1
    have hlb := Nat.lt_of_lt_of_le hlb (X3_up hb1).size
    obtain ⟨⟨⟨m0, m1, m2, m3, m4⟩, a0, a1, a2, a3, a4, a5, a6⟩, ⟨r0, r1, r2, r3⟩, f0, f1, f2, f3⟩ := X3_facts HL.out (Keep.of (D := D) hb1)
    have hz2 := X3_lt hb1
    have hz1 := Nat.lt_of_succ_lt hz2
    have hz0 := Nat.lt_of_succ_lt hz1
    have hlc1 := HFB.out _ (X3_up hb1)
    have hb2 := hb1.alloc hb1.size (.cells #[.string ⟨#[65, 99, 99, 101, 115, 115, 45, 67, 111, 110, 116, 114, 111, 108, 45, 65, 108, 108, 111, 119, 45, 79, 114, 105, 103, 105, 110]⟩, .string ⟨#[42]⟩] 59)
    go_wp2_with fail
    refine (HO2.out _ (X3_up hb2)).mono ?_
    rintro e w3 ⟨rfl, hb3⟩
    have hbx : Below (w1.heap.size + 1) (w1.alloc (.cells #[.string ⟨#[65, 99, 99, 101, 115, 115, 45, 67, 111, 110, 116, 114, 111, 108, 45, 65, 108, 108, 111, 119, 45, 79, 114, 105, 103, 105, 110]⟩, .string ⟨#[42]⟩] 59)) w3 := by simpa using hb3
    have hb4 := hb2.trans (hb3.mono hb2.size)
    obtain ⟨c0, c1⟩ := cell2 hbx
    have hzx : w1.heap.size < w3.heap.size := box_size hbx
    clear m0 m1 m2 m3 m4 a0 a1 a2 a3 a4 a5 a6 r0 r1 r2 r3 f0 f1 f2 f3 hz2 hz1 hz0 hlc1 hlb hb3 hbx hb2
    have hlb := Nat.lt_of_lt_of_le (HLB.out) (X3_up hb4).size
    obtain ⟨⟨⟨m0, m1, m2, m3, m4⟩, a0, a1, a2, a3, a4, a5, a6⟩, ⟨r0, r1, r2, r3⟩, f0, f1, f2, f3⟩ := X3_facts HL.out (Keep.of (D := D) hb4)
    have hz2 := X3_lt hb4
    have hz1 := Nat.lt_of_succ_lt hz2
    have hz0 := Nat.lt_of_succ_lt hz1
    have hlc1 := HFB.out _ (X3_up hb4)
    have hb5 := hb4.alloc hb4.size (.cells #[.string ⟨#[65, 99, 99, 101, 115, 115, 45, 67, 111, 110, 116, 114, 111, 108, 45, 65, 108, 108, 111, 119, 45, 79, 114, 105, 103, 105, 110]⟩, .string ⟨#[42]⟩, .string ⟨#[65, 99, 99, 101, 115, 115, 45, 67, 111, 110, 116, 114, 111, 108, 45, 65, 108, 108, 111, 119, 45, 77, 101, 116, 104, 111, 100, 115]⟩, .string m.value] 59)
    have ho5 := lit2 w3 ⟨#[65, 99, 99, 101, 115, 115, 45, 67, 111, 110, 116, 114, 111, 108, 45, 65, 108, 108, 111, 119, 45, 79, 114, 105, 103, 105, 110]⟩ ⟨#[42]⟩ ⟨#[65, 99, 99, 101, 115, 115, 45, 67, 111, 110, 116, 114, 111, 108, 45, 65, 108, 108, 111, 119, 45, 77, 101, 116, 104, 111, 100, 115]⟩ m.value
    go_wp2_with fail
    refine (HJN.out _ (X3_up hb5)).mono ?_
    rintro e w4 ⟨rfl, hb6⟩
    have hb7 := hb5.trans (hb6.mono hb5.size)
    have ho6 := own_below ho5 hb6
    have hbr : w3.heap.size ≤ w4.heap.size := Nat.le_trans (by simp) hb6.size
    clear m0 m1 m2 m3 m4 a0 a1 a2 a3 a4 a5 a6 r0 r1 r2 r3 f0 f1 f2 f3 hz2 hz1 hz0 hlc1 hlb c0 c1 hzx ho5
    have hlb := Nat.lt_of_lt_of_le (HLB.out) (X3_up hb7).size
    obtain ⟨⟨⟨m0, m1, m2, m3, m4⟩, a0, a1, a2, a3, a4, a5, a6⟩, ⟨r0, r1, r2, r3⟩, f0, f1, f2, f3⟩ := X3_facts HL.out (Keep.of (D := D) hb7)
    have hz2 := X3_lt hb7
    have hz1 := Nat.lt_of_succ_lt hz2
    have hz0 := Nat.lt_of_succ_lt hz1
    have hlc1 := HFB.out _ (X3_up hb7)
    clear hb6 hb5
    have hb8 := hb7.alloc hb7.size (.cells #[.string ⟨#[65, 99, 99, 101, 115, 115, 45, 67, 111, 110, 116, 114, 111, 108, 45, 65, 108, 108, 111, 119, 45, 72, 101, 97, 100, 101, 114, 115]⟩, .string js] 59)
    go_wp2_with (at_builtin; refine wpList_append_any _ rfl _ _ 25 rfl w3.heap.size 59 i0 (.agg #[.string ⟨#[]⟩, .string ⟨#[]⟩]) 2 32 Tryz.underlying25 hi0' hz0' hz1' hz2' rfl (by decide) _ 2 (flat ([(⟨#[65, 99, 99, 101, 115, 115, 45, 67, 111, 110, 116, 114, 111, 108, 45, 65, 108, 108, 111, 119, 45, 79, 114, 105, 103, 105, 110]⟩, ⟨#[42]⟩), (⟨#[65, 99, 99, 101, 115, 115, 45, 67, 111, 110, 116, 114, 111, 108, 45, 65, 108, 108, 111, 119, 45, 77, 101, 116, 104, 111, 100, 115]⟩, m.value)])) rfl (ho6.alloc _) _ (some ⟨w4.heap.size, 0, none⟩) 1 1 (flat ([(⟨#[65, 99, 99, 101, 115, 115, 45, 67, 111, 110, 116, 114, 111, 108, 45, 65, 108, 108, 111, 119, 45, 72, 101, 97, 100, 101, 114, 115]⟩, js)])) rfl (reads_of_row (row_field w4 ⟨#[65, 99, 99, 101, 115, 115, 45, 67, 111, 110, 116, 114, 111, 108, 45, 65, 108, 108, 111, 119, 45, 72, 101, 97, 100, 101, 114, 115]⟩ js rfl) (flat_length _) (by decide)) ?av5j ?bv5j ?cv5j ?dv5j ?ev5j)
    case av5j => exact flat_oneCell _
    case bv5j => have := HVF.out.2; unfold maxLen; omega
    case cv5j => have := HVF.out.2; omega
    case dv5j => simp; omega
    case ev5j =>
     intro v' w5 hown5 hg5 _
     have ho7 : w5.ownsRow w3.heap.size 59 2 v' 3 (flat ([(⟨#[65, 99, 99, 101, 115, 115, 45, 67, 111, 110, 116, 114, 111, 108, 45, 65, 108, 108, 111, 119, 45, 79, 114, 105, 103, 105, 110]⟩, ⟨#[42]⟩), (⟨#[65, 99, 99, 101, 115, 115, 45, 67, 111, 110, 116, 114, 111, 108, 45, 65, 108, 108, 111, 119, 45, 77, 101, 116, 104, 111, 100, 115]⟩, m.value)] ++ [(⟨#[65, 99, 99, 101, 115, 115, 45, 67, 111, 110, 116, 114, 111, 108, 45, 65, 108, 108, 111, 119, 45, 72, 101, 97, 100, 101, 114, 115]⟩, js)])) := by rw [flat_append]; exact hown5
     have hb9 : Below (X3 w (midC m (some ⟨lb0, lo0, none⟩) c) (rqC r FA fc TA tc)).heap.size (X3 w (midC m (some ⟨lb0, lo0, none⟩) c) (rqC r FA fc TA tc)) w5 := hb8.grown hg5 (hb8.size) (fun k hk => Nat.le_trans hb4.size (own_lt ho6 k hk))
     have hbr2 : w3.heap.size ≤ w5.heap.size := Nat.le_trans hbr (Nat.le_trans (by simp) hg5.size)
     obtain ⟨A5, c5, rfl⟩ := own_slice ho7
     clear hown5 hg5 ho6 hb8 hbr m0 m1 m2 m3 m4 a0 a1 a2 a3 a4 a5 a6 r0 r1 r2 r3 f0 f1 f2 f3 hz2 hz1 hz0 hlc1 hlb hb7
     have hbr := hbr2
     have hlb := Nat.lt_of_lt_of_le (HLB.out) (X3_up hb9).size
     obtain ⟨⟨⟨m0, m1, m2, m3, m4⟩, a0, a1, a2, a3, a4, a5, a6⟩, ⟨r0, r1, r2, r3⟩, f0, f1, f2, f3⟩ := X3_facts HL.out (Keep.of (D := D) hb9)
     have hz2 := X3_lt hb9
     have hz1 := Nat.lt_of_succ_lt hz2
     have hz0 := Nat.lt_of_succ_lt hz1
     have hlc1 := HFB.out _ (X3_up hb9)
     obtain ⟨l1, hl1⟩ : ∃ x : List Fl, x = [(⟨#[65, 99, 99, 101, 115, 115, 45, 67, 111, 110, 116, 114, 111, 108, 45, 65, 108, 108, 111, 119, 45, 79, 114, 105, 103, 105, 110]⟩, ⟨#[42]⟩), (⟨#[65, 99, 99, 101, 115, 115, 45, 67, 111, 110, 116, 114, 111, 108, 45, 65, 108, 108, 111, 119, 45, 77, 101, 116, 104, 111, 100, 115]⟩, m.value)] ++ [(⟨#[65, 99, 99, 101, 115, 115, 45, 67, 111, 110, 116, 114, 111, 108, 45, 65, 108, 108, 111, 119, 45, 72, 101, 97, 100, 101, 114, 115]⟩, js)] := ⟨_, rfl⟩
     rw [← hl1] at ho7
     have HL1 := Lib.hid hl1
     clear hl1
     go_wp2_with fail
     refine (HDG.out _ (X3_up hb9)).mono ?_
     rintro e w6 ⟨rfl, hbd⟩
     have hb10 := hb9.trans (hbd.mono hb9.size)
     have ho8 := own_below ho7 hbd
     have hbr3 : w3.heap.size ≤ w6.heap.size := Nat.le_trans hbr hbd.size
     clear hbd ho7 hbr hb9 m0 m1 m2 m3 m4 a0 a1 a2 a3 a4 a5 a6 r0 r1 r2 r3 f0 f1 f2 f3 hz2 hz1 hz0 hlc1 hlb
     have hlb := Nat.lt_of_lt_of_le (HLB.out) (X3_up hb10).size
     obtain ⟨⟨⟨m0, m1, m2, m3, m4⟩, a0, a1, a2, a3, a4, a5, a6⟩, ⟨r0, r1, r2, r3⟩, f0, f1, f2, f3⟩ := X3_facts HL.out (Keep.of (D := D) hb10)
     have hz2 := X3_lt hb10
     have hz1 := Nat.lt_of_succ_lt hz2
     have hz0 := Nat.lt_of_succ_lt hz1
     have hlc1 := HFB.out _ (X3_up hb10)
     have hb11 := hb10.alloc hb10.size (.cells #[.string ⟨#[65, 99, 99, 101, 115, 115, 45, 67, 111, 110, 116, 114, 111, 108, 45, 77, 97, 120, 45, 65, 103, 101]⟩, .string dg] 59)
     go_wp2_with (at_builtin; refine wpList_append_any _ rfl _ _ 25 rfl w3.heap.size 59 i0 (.agg #[.string ⟨#[]⟩, .string ⟨#[]⟩]) 2 32 Tryz.underlying25 hi0' hz0' hz1' hz2' rfl (by decide) _ 3 (flat (l1)) rfl (ho8.alloc _) _ (some ⟨w6.heap.size, 0, none⟩) 1 1 (flat ([(⟨#[65, 99, 99, 101, 115, 115, 45, 67, 111, 110, 116, 114, 111, 108, 45, 77, 97, 120, 45, 65, 103, 101]⟩, dg)])) rfl (reads_of_row (row_field w6 ⟨#[65, 99, 99, 101, 115, 115, 45, 67, 111, 110, 116, 114, 111, 108, 45, 77, 97, 120, 45, 65, 103, 101]⟩ dg rfl) (flat_length _) (by decide)) ?av5d ?bv5d ?cv5d ?dv5d ?ev5d)
     case av5d => exact flat_oneCell _
     case bv5d => have := HVF.out.2; unfold maxLen; omega
     case cv5d => have := HVF.out.2; omega
     case dv5d => simp; omega
     case ev5d =>
      intro v2 w7 hown7 hg7 _
      have ho9 : w7.ownsRow w3.heap.size 59 2 v2 4 (flat (l1 ++ [(⟨#[65, 99, 99, 101, 115, 115, 45, 67, 111, 110, 116, 114, 111, 108, 45, 77, 97, 120, 45, 65, 103, 101]⟩, dg)])) := by rw [flat_append]; exact hown7
      have hb12 : Below (X3 w (midC m (some ⟨lb0, lo0, none⟩) c) (rqC r FA fc TA tc)).heap.size (X3 w (midC m (some ⟨lb0, lo0, none⟩) c) (rqC r FA fc TA tc)) w7 := hb11.grown hg7 (hb11.size) (fun k hk => Nat.le_trans hb4.size (own_lt ho8 k hk))
      have hbr4 : w3.heap.size ≤ w7.heap.size := Nat.le_trans hbr3 (Nat.le_trans (by simp) hg7.size)
      obtain ⟨A7, c7, rfl⟩ := own_slice ho9
      obtain ⟨l2, hl2⟩ : ∃ x : List Fl, x = l1 ++ [(⟨#[65, 99, 99, 101, 115, 115, 45, 67, 111, 110, 116, 114, 111, 108, 45, 77, 97, 120, 45, 65, 103, 101]⟩, dg)] := ⟨_, rfl⟩
      rw [← hl2] at ho9
      have HL2 := Lib.hid hl2
      clear hown7 hg7 ho8 hb11 hbr3 hl2 hb10 m0 m1 m2 m3 m4 a0 a1 a2 a3 a4 a5 a6 r0 r1 r2 r3 f0 f1 f2 f3 hz2 hz1 hz0 hlc1 hlb
      have hlb := Nat.lt_of_lt_of_le (HLB.out) (X3_up hb12).size
      obtain ⟨⟨⟨m0, m1, m2, m3, m4⟩, a0, a1, a2, a3, a4, a5, a6⟩, ⟨r0, r1, r2, r3⟩, f0, f1, f2, f3⟩ := X3_facts HL.out (Keep.of (D := D) hb12)
      have hz2 := X3_lt hb12
      have hz1 := Nat.lt_of_succ_lt hz2
      have hz0 := Nat.lt_of_succ_lt hz1
      have hlc1 := HFB.out _ (X3_up hb12)
      go_wp2_with fail
      refine (HVR.out _ (Keep.of (X3_up hb12))).mono ?_
      rintro e w8 ⟨VA, vc, rfl, hov, hbv⟩
      have hb13 := hb12.trans (hbv.mono hb12.size)
      have ho10 := own_below ho9 hbv
      have hbr5 : w3.heap.size ≤ w8.heap.size := Nat.le_trans hbr4 hbv.size
      have hrv := own_row hov
      clear hbv ho9 hbr4 hov hb12 m0 m1 m2 m3 m4 a0 a1 a2 a3 a4 a5 a6 r0 r1 r2 r3 f0 f1 f2 f3 hz2 hz1 hz0 hlc1 hlb
      have hlb := Nat.lt_of_lt_of_le (HLB.out) (X3_up hb13).size
      obtain ⟨⟨⟨m0, m1, m2, m3, m4⟩, a0, a1, a2, a3, a4, a5, a6⟩, ⟨r0, r1, r2, r3⟩, f0, f1, f2, f3⟩ := X3_facts HL.out (Keep.of (D := D) hb13)
      have hz2 := X3_lt hb13
      have hz1 := Nat.lt_of_succ_lt hz2
      have hz0 := Nat.lt_of_succ_lt hz1
      have hlc1 := HFB.out _ (X3_up hb13)
      go_wp2_with (at_builtin; refine wpList_append_any _ rfl _ _ 25 rfl w3.heap.size 59 i0 (.agg #[.string ⟨#[]⟩, .string ⟨#[]⟩]) 2 32 Tryz.underlying25 hi0' hz0' hz1' hz2' rfl (by decide) _ 4 (flat (l2)) rfl ho10 _ VA vp.length vc (flat (vp)) rfl (reads_of_row hrv (flat_length _) (by decide)) ?av5f ?bv5f ?cv5f ?dv5f ?ev5f)
      case av5f => exact flat_oneCell _
      case bv5f => have := HVF.out.2; unfold maxLen; omega
      case cv5f => have := HVF.out.2; omega
      case dv5f => exact hbr5
      case ev5f =>
       intro v3 w9 hown9 hg9 _
       have ho11 : w9.ownsRow w3.heap.size 59 2 v3 (4 + vp.length) (flat (l2 ++ vp)) := by rw [flat_append]; exact hown9
       have hb14 : Below (X3 w (midC m (some ⟨lb0, lo0, none⟩) c) (rqC r FA fc TA tc)).heap.size (X3 w (midC m (some ⟨lb0, lo0, none⟩) c) (rqC r FA fc TA tc)) w9 := hb13.grown hg9 (hb13.size) (fun k hk => Nat.le_trans hb4.size (own_lt ho10 k hk))
       obtain ⟨A9, c9, rfl⟩ := own_slice ho11
       clear hown9 hg9 ho10 hrv hb13 m0 m1 m2 m3 m4 a0 a1 a2 a3 a4 a5 a6 r0 r1 r2 r3 f0 f1 f2 f3 hz2 hz1 hz0 hlc1 hlb
       have hl2n : l2.length = 4 := by rw [HL2.out, HL1.out]; simp
       have hln : 4 + vp.length = (l2 ++ vp).length := by rw [List.length_append, hl2n]
       have HO := Lib.hid (own_less (b' := (X3 w (midC m (some ⟨lb0, lo0, none⟩) c) (rqC r FA fc TA tc)).heap.size) ho11 hb4.size)
       rw [hln] at HO
       have HLN := Lib.hid hln
       clear hln hl2n ho11
       obtain ⟨⟨⟨r0, r1, r2, r3⟩, f0, f1, f2, f3⟩, hz2⟩ := X3_resF HL.out hX0 (Keep.of hb14)
       have HBW := Lib.hid (X3_up hb14)
       clear hb14 hb4
       have HXE := Lib.hid (show aheadP m r = .inr ⟨204, ⟨#[]⟩, l2 ++ vp, ⟨#[]⟩⟩ by rw [HAI.out, HL2.out, HL1.out, if_pos HJB.out, if_neg HVB.out]; rfl)
       have HFY := Lib.hid (show FitS 8 ⟨204, ⟨#[]⟩, l2 ++ vp, ⟨#[]⟩⟩ by have h := HFX.out; rw [if_pos HJB.out, if_neg HVB.out] at h; rw [HL2.out, HL1.out]; exact h)
       go_wp2
       exact bodyPost_ret (v := rsV ⟨204, ⟨#[]⟩, l2 ++ vp, ⟨#[]⟩⟩ A9 c9) (by simp [results, Tryz.results71, go_sem, rsV, r0, r1, r2, r3, ← HLN.out]) rfl
        (fin_self (b := w.heap.size + 1 + 1) (x := ⟨204, ⟨#[]⟩, l2 ++ vp, ⟨#[]⟩⟩) HL.out hWx (by omega) (by rw [X3_size]; omega) HBW.out HO.out HXE.out (HFY.out.more (by have := HN8.out; omega)) _ _ _ _)
   ·rw [h1] at hst
    rw [h2] at HCS
    clear h1 h2
    go_enter Tryz.func71, Tryz.ntmps71
    go_wp2_with fail
    refine (HO1.out _ hWx).mono ?_
    rintro e w1 ⟨rfl, hb1⟩
    have hb1 : Below (X3 w (midC m (some ⟨lb0, lo0, none⟩) c) (rqC r FA fc TA tc)).heap.size (X3 w (midC m (some ⟨lb0, lo0, none⟩) c) (rqC r FA fc TA tc)) w1 := hb1
    have hlb := Nat.lt_of_lt_of_le hlb (X3_up hb1).size
    obtain ⟨⟨⟨m0, m1, m2, m3, m4⟩, a0, a1, a2, a3, a4, a5, a6⟩, ⟨r0, r1, r2, r3⟩, f0, f1, f2, f3⟩ := X3_facts HL.out (Keep.of (D := D) hb1)
    have hz2 := X3_lt hb1
    have hz1 := Nat.lt_of_succ_lt hz2
    have hz0 := Nat.lt_of_succ_lt hz1
    have hlc1 := HFB.out _ (X3_up hb1)
    go_wp2_with fail
    refine (HCS.out _ (X3_up hb1)).mono ?_
    rintro e w9 ⟨rfl, rfl⟩
    have hb2 := hb1.alloc hb1.size (.cells #[.string ⟨#[65, 99, 99, 101, 115, 115, 45, 67, 111, 110, 116, 114, 111, 108, 45, 65, 108, 108, 111, 119, 45, 79, 114, 105, 103, 105, 110]⟩, .string ov] 59)
    go_wp2_with fail
    refine (HO2.out _ (X3_up hb2)).mono ?_
    rintro e w3 ⟨rfl, hb3⟩
    have hbx : Below (w1.heap.size + 1) (w1.alloc (.cells #[.string ⟨#[65, 99, 99, 101, 115, 115, 45, 67, 111, 110, 116, 114, 111, 108, 45, 65, 108, 108, 111, 119, 45, 79, 114, 105, 103, 105, 110]⟩, .string ov] 59)) w3 := by simpa using hb3
    have hb4 := hb2.trans (hb3.mono hb2.size)
    obtain ⟨c0, c1⟩ := cell2 hbx
    have hzx : w1.heap.size < w3.heap.size := box_size hbx
    clear m0 m1 m2 m3 m4 a0 a1 a2 a3 a4 a5 a6 r0 r1 r2 r3 f0 f1 f2 f3 hz2 hz1 hz0 hlc1 hlb hb3 hbx hb2
    have hlb := Nat.lt_of_lt_of_le (HLB.out) (X3_up hb4).size
    obtain ⟨⟨⟨m0, m1, m2, m3, m4⟩, a0, a1, a2, a3, a4, a5, a6⟩, ⟨r0, r1, r2, r3⟩, f0, f1, f2, f3⟩ := X3_facts HL.out (Keep.of (D := D) hb4)
    have hz2 := X3_lt hb4
    have hz1 := Nat.lt_of_succ_lt hz2
    have hz0 := Nat.lt_of_succ_lt hz1
    have hlc1 := HFB.out _ (X3_up hb4)
    have hb5 := hb4.alloc hb4.size (.cells #[.string ⟨#[65, 99, 99, 101, 115, 115, 45, 67, 111, 110, 116, 114, 111, 108, 45, 65, 108, 108, 111, 119, 45, 79, 114, 105, 103, 105, 110]⟩, .string ov, .string ⟨#[65, 99, 99, 101, 115, 115, 45, 67, 111, 110, 116, 114, 111, 108, 45, 65, 108, 108, 111, 119, 45, 77, 101, 116, 104, 111, 100, 115]⟩, .string m.value] 59)
    have ho5 := lit2 w3 ⟨#[65, 99, 99, 101, 115, 115, 45, 67, 111, 110, 116, 114, 111, 108, 45, 65, 108, 108, 111, 119, 45, 79, 114, 105, 103, 105, 110]⟩ ov ⟨#[65, 99, 99, 101, 115, 115, 45, 67, 111, 110, 116, 114, 111, 108, 45, 65, 108, 108, 111, 119, 45, 77, 101, 116, 104, 111, 100, 115]⟩ m.value
    go_wp2_with fail
    refine (HJN.out _ (X3_up hb5)).mono ?_
    rintro e w4 ⟨rfl, hb6⟩
    have hb7 := hb5.trans (hb6.mono hb5.size)
    have ho6 := own_below ho5 hb6
    have hbr : w3.heap.size ≤ w4.heap.size := Nat.le_trans (by simp) hb6.size
    clear m0 m1 m2 m3 m4 a0 a1 a2 a3 a4 a5 a6 r0 r1 r2 r3 f0 f1 f2 f3 hz2 hz1 hz0 hlc1 hlb c0 c1 hzx ho5
    have hlb := Nat.lt_of_lt_of_le (HLB.out) (X3_up hb7).size
    obtain ⟨⟨⟨m0, m1, m2, m3, m4⟩, a0, a1, a2, a3, a4, a5, a6⟩, ⟨r0, r1, r2, r3⟩, f0, f1, f2, f3⟩ := X3_facts HL.out (Keep.of (D := D) hb7)
    have hz2 := X3_lt hb7
    have hz1 := Nat.lt_of_succ_lt hz2
    have hz0 := Nat.lt_of_succ_lt hz1
    have hlc1 := HFB.out _ (X3_up hb7)
    clear hb6 hb5
    have hb8 := hb7.alloc hb7.size (.cells #[.string ⟨#[65, 99, 99, 101, 115, 115, 45, 67, 111, 110, 116, 114, 111, 108, 45, 65, 108, 108, 111, 119, 45, 72, 101, 97, 100, 101, 114, 115]⟩, .string js] 59)
    go_wp2_with (at_builtin; refine wpList_append_any _ rfl _ _ 25 rfl w3.heap.size 59 i0 (.agg #[.string ⟨#[]⟩, .string ⟨#[]⟩]) 2 32 Tryz.underlying25 hi0' hz0' hz1' hz2' rfl (by decide) _ 2 (flat ([(⟨#[65, 99, 99, 101, 115, 115, 45, 67, 111, 110, 116, 114, 111, 108, 45, 65, 108, 108, 111, 119, 45, 79, 114, 105, 103, 105, 110]⟩, ov), (⟨#[65, 99, 99, 101, 115, 115, 45, 67, 111, 110, 116, 114, 111, 108, 45, 65, 108, 108, 111, 119, 45, 77, 101, 116, 104, 111, 100, 115]⟩, m.value)])) rfl (ho6.alloc _) _ (some ⟨w4.heap.size, 0, none⟩) 1 1 (flat ([(⟨#[65, 99, 99, 101, 115, 115, 45, 67, 111, 110, 116, 114, 111, 108, 45, 65, 108, 108, 111, 119, 45, 72, 101, 97, 100, 101, 114, 115]⟩, js)])) rfl (reads_of_row (row_field w4 ⟨#[65, 99, 99, 101, 115, 115, 45, 67, 111, 110, 116, 114, 111, 108, 45, 65, 108, 108, 111, 119, 45, 72, 101, 97, 100, 101, 114, 115]⟩ js rfl) (flat_length _) (by decide)) ?av6j ?bv6j ?cv6j ?dv6j ?ev6j)
    case av6j => exact flat_oneCell _
    case bv6j => have := HVF.out.2; unfold maxLen; omega
    case cv6j => have := HVF.out.2; omega
    case dv6j => simp; omega
    case ev6j =>
     intro v' w5 hown5 hg5 _
     have ho7 : w5.ownsRow w3.heap.size 59 2 v' 3 (flat ([(⟨#[65, 99, 99, 101, 115, 115, 45, 67, 111, 110, 116, 114, 111, 108, 45, 65, 108, 108, 111, 119, 45, 79, 114, 105, 103, 105, 110]⟩, ov), (⟨#[65, 99, 99, 101, 115, 115, 45, 67, 111, 110, 116, 114, 111, 108, 45, 65, 108, 108, 111, 119, 45, 77, 101, 116, 104, 111, 100, 115]⟩, m.value)] ++ [(⟨#[65, 99, 99, 101, 115, 115, 45, 67, 111, 110, 116, 114, 111, 108, 45, 65, 108, 108, 111, 119, 45, 72, 101, 97, 100, 101, 114, 115]⟩, js)])) := by rw [flat_append]; exact hown5
     have hb9 : Below (X3 w (midC m (some ⟨lb0, lo0, none⟩) c) (rqC r FA fc TA tc)).heap.size (X3 w (midC m (some ⟨lb0, lo0, none⟩) c) (rqC r FA fc TA tc)) w5 := hb8.grown hg5 (hb8.size) (fun k hk => Nat.le_trans hb4.size (own_lt ho6 k hk))
     have hbr2 : w3.heap.size ≤ w5.heap.size := Nat.le_trans hbr (Nat.le_trans (by simp) hg5.size)
     obtain ⟨A5, c5, rfl⟩ := own_slice ho7
     clear hown5 hg5 ho6 hb8 hbr m0 m1 m2 m3 m4 a0 a1 a2 a3 a4 a5 a6 r0 r1 r2 r3 f0 f1 f2 f3 hz2 hz1 hz0 hlc1 hlb hb7
     have hbr := hbr2
     have hlb := Nat.lt_of_lt_of_le (HLB.out) (X3_up hb9).size
     obtain ⟨⟨⟨m0, m1, m2, m3, m4⟩, a0, a1, a2, a3, a4, a5, a6⟩, ⟨r0, r1, r2, r3⟩, f0, f1, f2, f3⟩ := X3_facts HL.out (Keep.of (D := D) hb9)
     have hz2 := X3_lt hb9
     have hz1 := Nat.lt_of_succ_lt hz2
     have hz0 := Nat.lt_of_succ_lt hz1
     have hlc1 := HFB.out _ (X3_up hb9)
     obtain ⟨l1, hl1⟩ : ∃ x : List Fl, x = [(⟨#[65, 99, 99, 101, 115, 115, 45, 67, 111, 110, 116, 114, 111, 108, 45, 65, 108, 108, 111, 119, 45, 79, 114, 105, 103, 105, 110]⟩, ov), (⟨#[65, 99, 99, 101, 115, 115, 45, 67, 111, 110, 116, 114, 111, 108, 45, 65, 108, 108, 111, 119, 45, 77, 101, 116, 104, 111, 100, 115]⟩, m.value)] ++ [(⟨#[65, 99, 99, 101, 115, 115, 45, 67, 111, 110, 116, 114, 111, 108, 45, 65, 108, 108, 111, 119, 45, 72, 101, 97, 100, 101, 114, 115]⟩, js)] := ⟨_, rfl⟩
     rw [← hl1] at ho7
     have HL1 := Lib.hid hl1
     clear hl1
     go_wp2_with fail
     refine (HDG.out _ (X3_up hb9)).mono ?_
     rintro e w6 ⟨rfl, hbd⟩
     have hb10 := hb9.trans (hbd.mono hb9.size)
     have ho8 := own_below ho7 hbd
     have hbr3 : w3.heap.size ≤ w6.heap.size := Nat.le_trans hbr hbd.size
     clear hbd ho7 hbr hb9 m0 m1 m2 m3 m4 a0 a1 a2 a3 a4 a5 a6 r0 r1 r2 r3 f0 f1 f2 f3 hz2 hz1 hz0 hlc1 hlb
     have hlb := Nat.lt_of_lt_of_le (HLB.out) (X3_up hb10).size
     obtain ⟨⟨⟨m0, m1, m2, m3, m4⟩, a0, a1, a2, a3, a4, a5, a6⟩, ⟨r0, r1, r2, r3⟩, f0, f1, f2, f3⟩ := X3_facts HL.out (Keep.of (D := D) hb10)
     have hz2 := X3_lt hb10
     have hz1 := Nat.lt_of_succ_lt hz2
     have hz0 := Nat.lt_of_succ_lt hz1
     have hlc1 := HFB.out _ (X3_up hb10)
     have hb11 := hb10.alloc hb10.size (.cells #[.string ⟨#[65, 99, 99, 101, 115, 115, 45, 67, 111, 110, 116, 114, 111, 108, 45, 77, 97, 120, 45, 65, 103, 101]⟩, .string dg] 59)
     go_wp2_with (at_builtin; refine wpList_append_any _ rfl _ _ 25 rfl w3.heap.size 59 i0 (.agg #[.string ⟨#[]⟩, .string ⟨#[]⟩]) 2 32 Tryz.underlying25 hi0' hz0' hz1' hz2' rfl (by decide) _ 3 (flat (l1)) rfl (ho8.alloc _) _ (some ⟨w6.heap.size, 0, none⟩) 1 1 (flat ([(⟨#[65, 99, 99, 101, 115, 115, 45, 67, 111, 110, 116, 114, 111, 108, 45, 77, 97, 120, 45, 65, 103, 101]⟩, dg)])) rfl (reads_of_row (row_field w6 ⟨#[65, 99, 99, 101, 115, 115, 45, 67, 111, 110, 116, 114, 111, 108, 45, 77, 97, 120, 45, 65, 103, 101]⟩ dg rfl) (flat_length _) (by decide)) ?av6d ?bv6d ?cv6d ?dv6d ?ev6d)
     case av6d => exact flat_oneCell _
     case bv6d => have := HVF.out.2; unfold maxLen; omega
     case cv6d => have := HVF.out.2; omega
     case dv6d => simp; omega
     case ev6d =>
      intro v2 w7 hown7 hg7 _
      have ho9 : w7.ownsRow w3.heap.size 59 2 v2 4 (flat (l1 ++ [(⟨#[65, 99, 99, 101, 115, 115, 45, 67, 111, 110, 116, 114, 111, 108, 45, 77, 97, 120, 45, 65, 103, 101]⟩, dg)])) := by rw [flat_append]; exact hown7
      have hb12 : Below (X3 w (midC m (some ⟨lb0, lo0, none⟩) c) (rqC r FA fc TA tc)).heap.size (X3 w (midC m (some ⟨lb0, lo0, none⟩) c) (rqC r FA fc TA tc)) w7 := hb11.grown hg7 (hb11.size) (fun k hk => Nat.le_trans hb4.size (own_lt ho8 k hk))
      have hbr4 : w3.heap.size ≤ w7.heap.size := Nat.le_trans hbr3 (Nat.le_trans (by simp) hg7.size)
      obtain ⟨A7, c7, rfl⟩ := own_slice ho9
      obtain ⟨l2, hl2⟩ : ∃ x : List Fl, x = l1 ++ [(⟨#[65, 99, 99, 101, 115, 115, 45, 67, 111, 110, 116, 114, 111, 108, 45, 77, 97, 120, 45, 65, 103, 101]⟩, dg)] := ⟨_, rfl⟩
      rw [← hl2] at ho9
      have HL2 := Lib.hid hl2
      clear hown7 hg7 ho8 hb11 hbr3 hl2 hb10 m0 m1 m2 m3 m4 a0 a1 a2 a3 a4 a5 a6 r0 r1 r2 r3 f0 f1 f2 f3 hz2 hz1 hz0 hlc1 hlb
      have hlb := Nat.lt_of_lt_of_le (HLB.out) (X3_up hb12).size
      obtain ⟨⟨⟨m0, m1, m2, m3, m4⟩, a0, a1, a2, a3, a4, a5, a6⟩, ⟨r0, r1, r2, r3⟩, f0, f1, f2, f3⟩ := X3_facts HL.out (Keep.of (D := D) hb12)
      have hz2 := X3_lt hb12
      have hz1 := Nat.lt_of_succ_lt hz2
      have hz0 := Nat.lt_of_succ_lt hz1
      have hlc1 := HFB.out _ (X3_up hb12)
      go_wp2_with fail
      refine (HVR.out _ (Keep.of (X3_up hb12))).mono ?_
      rintro e w8 ⟨VA, vc, rfl, hov, hbv⟩
      have hb13 := hb12.trans (hbv.mono hb12.size)
      have ho10 := own_below ho9 hbv
      have hbr5 : w3.heap.size ≤ w8.heap.size := Nat.le_trans hbr4 hbv.size
      have hrv := own_row hov
      clear hbv ho9 hbr4 hov hb12 m0 m1 m2 m3 m4 a0 a1 a2 a3 a4 a5 a6 r0 r1 r2 r3 f0 f1 f2 f3 hz2 hz1 hz0 hlc1 hlb
      have hlb := Nat.lt_of_lt_of_le (HLB.out) (X3_up hb13).size
      obtain ⟨⟨⟨m0, m1, m2, m3, m4⟩, a0, a1, a2, a3, a4, a5, a6⟩, ⟨r0, r1, r2, r3⟩, f0, f1, f2, f3⟩ := X3_facts HL.out (Keep.of (D := D) hb13)
      have hz2 := X3_lt hb13
      have hz1 := Nat.lt_of_succ_lt hz2
      have hz0 := Nat.lt_of_succ_lt hz1
      have hlc1 := HFB.out _ (X3_up hb13)
      go_wp2_with (at_builtin; refine wpList_append_any _ rfl _ _ 25 rfl w3.heap.size 59 i0 (.agg #[.string ⟨#[]⟩, .string ⟨#[]⟩]) 2 32 Tryz.underlying25 hi0' hz0' hz1' hz2' rfl (by decide) _ 4 (flat (l2)) rfl ho10 _ VA vp.length vc (flat (vp)) rfl (reads_of_row hrv (flat_length _) (by decide)) ?av6f ?bv6f ?cv6f ?dv6f ?ev6f)
      case av6f => exact flat_oneCell _
      case bv6f => have := HVF.out.2; unfold maxLen; omega
      case cv6f => have := HVF.out.2; omega
      case dv6f => exact hbr5
      case ev6f =>
       intro v3 w9 hown9 hg9 _
       have ho11 : w9.ownsRow w3.heap.size 59 2 v3 (4 + vp.length) (flat (l2 ++ vp)) := by rw [flat_append]; exact hown9
       have hb14 : Below (X3 w (midC m (some ⟨lb0, lo0, none⟩) c) (rqC r FA fc TA tc)).heap.size (X3 w (midC m (some ⟨lb0, lo0, none⟩) c) (rqC r FA fc TA tc)) w9 := hb13.grown hg9 (hb13.size) (fun k hk => Nat.le_trans hb4.size (own_lt ho10 k hk))
       obtain ⟨A9, c9, rfl⟩ := own_slice ho11
       clear hown9 hg9 ho10 hrv hb13 m0 m1 m2 m3 m4 a0 a1 a2 a3 a4 a5 a6 r0 r1 r2 r3 f0 f1 f2 f3 hz2 hz1 hz0 hlc1 hlb
       have hl2n : l2.length = 4 := by rw [HL2.out, HL1.out]; simp
       have hln : 4 + vp.length = (l2 ++ vp).length := by rw [List.length_append, hl2n]
       have HO := Lib.hid (own_less (b' := (X3 w (midC m (some ⟨lb0, lo0, none⟩) c) (rqC r FA fc TA tc)).heap.size) ho11 hb4.size)
       rw [hln] at HO
       have HLN := Lib.hid hln
       clear hln hl2n ho11
       obtain ⟨⟨⟨r0, r1, r2, r3⟩, f0, f1, f2, f3⟩, hz2⟩ := X3_resF HL.out hX0 (Keep.of hb14)
       have HBW := Lib.hid (X3_up hb14)
       clear hb14 hb4
       have HXE := Lib.hid (show aheadP m r = .inr ⟨204, ⟨#[]⟩, l2 ++ vp, ⟨#[]⟩⟩ by rw [HAI.out, HL2.out, HL1.out, if_pos HJB.out, if_neg HVB.out]; rfl)
       have HFY := Lib.hid (show FitS 8 ⟨204, ⟨#[]⟩, l2 ++ vp, ⟨#[]⟩⟩ by have h := HFX.out; rw [if_pos HJB.out, if_neg HVB.out] at h; rw [HL2.out, HL1.out]; exact h)
       go_wp2
       exact bodyPost_ret (v := rsV ⟨204, ⟨#[]⟩, l2 ++ vp, ⟨#[]⟩⟩ A9 c9) (by simp [results, Tryz.results71, go_sem, rsV, r0, r1, r2, r3, ← HLN.out]) rfl
        (fin_self (b := w.heap.size + 1 + 1) (x := ⟨204, ⟨#[]⟩, l2 ++ vp, ⟨#[]⟩⟩) HL.out hWx (by omega) (by rw [X3_size]; omega) HBW.out HO.out HXE.out (HFY.out.more (by have := HN8.out; omega)) _ _ _ _)
  ·have HJB := Lib.hid hjb
   rw [show decide (0 < (allV r.fields acrhN).length) = false from decide_eq_false hjb] at HJN
   clear hjb
   rcases hfs with ⟨h1, rfl⟩ | ⟨h1, h2, rfl⟩
   ·rw [h1] at hst
    clear h1 HCS
    go_enter Tryz.func71, Tryz.ntmps71
    go_wp2_with fail
    refine (HO1.out _ hWx).mono ?_
    rintro e w1 ⟨rfl, hb1⟩
    have hb1 : Below (X3 w (midC m (some ⟨lb0, lo0, none⟩) c) (rqC r FA fc TA tc)).heap.size (X3 w (midC m (some ⟨lb0, lo0, none⟩) c) (rqC r FA fc TA tc)) w1 := hb1
    have hlb := Nat.lt_of_lt_of_le hlb (X3_up hb1).size
    obtain ⟨⟨⟨m0, m1, m2, m3, m4⟩, a0, a1, a2, a3, a4, a5, a6⟩, ⟨r0, r1, r2, r3⟩, f0, f1, f2, f3⟩ := X3_facts HL.out (Keep.of (D := D) hb1)
    have hz2 := X3_lt hb1
    have hz1 := Nat.lt_of_succ_lt hz2
    have hz0 := Nat.lt_of_succ_lt hz1
    have hlc1 := HFB.out _ (X3_up hb1)
    have hb2 := hb1.alloc hb1.size (.cells #[.string ⟨#[65, 99, 99, 101, 115, 115, 45, 67, 111, 110, 116, 114, 111, 108, 45, 65, 108, 108, 111, 119, 45, 79, 114, 105, 103, 105, 110]⟩, .string ⟨#[42]⟩] 59)
    go_wp2_with fail
    refine (HO2.out _ (X3_up hb2)).mono ?_
    rintro e w3 ⟨rfl, hb3⟩
    have hbx : Below (w1.heap.size + 1) (w1.alloc (.cells #[.string ⟨#[65, 99, 99, 101, 115, 115, 45, 67, 111, 110, 116, 114, 111, 108, 45, 65, 108, 108, 111, 119, 45, 79, 114, 105, 103, 105, 110]⟩, .string ⟨#[42]⟩] 59)) w3 := by simpa using hb3
    have hb4 := hb2.trans (hb3.mono hb2.size)
    obtain ⟨c0, c1⟩ := cell2 hbx
    have hzx : w1.heap.size < w3.heap.size := box_size hbx
    clear m0 m1 m2 m3 m4 a0 a1 a2 a3 a4 a5 a6 r0 r1 r2 r3 f0 f1 f2 f3 hz2 hz1 hz0 hlc1 hlb hb3 hbx hb2
    have hlb := Nat.lt_of_lt_of_le (HLB.out) (X3_up hb4).size
    obtain ⟨⟨⟨m0, m1, m2, m3, m4⟩, a0, a1, a2, a3, a4, a5, a6⟩, ⟨r0, r1, r2, r3⟩, f0, f1, f2, f3⟩ := X3_facts HL.out (Keep.of (D := D) hb4)
    have hz2 := X3_lt hb4
    have hz1 := Nat.lt_of_succ_lt hz2
    have hz0 := Nat.lt_of_succ_lt hz1
    have hlc1 := HFB.out _ (X3_up hb4)
    have hb5 := hb4.alloc hb4.size (.cells #[.string ⟨#[65, 99, 99, 101, 115, 115, 45, 67, 111, 110, 116, 114, 111, 108, 45, 65, 108, 108, 111, 119, 45, 79, 114, 105, 103, 105, 110]⟩, .string ⟨#[42]⟩, .string ⟨#[65, 99, 99, 101, 115, 115, 45, 67, 111, 110, 116, 114, 111, 108, 45, 65, 108, 108, 111, 119, 45, 77, 101, 116, 104, 111, 100, 115]⟩, .string m.value] 59)
    have ho5 := lit2 w3 ⟨#[65, 99, 99, 101, 115, 115, 45, 67, 111, 110, 116, 114, 111, 108, 45, 65, 108, 108, 111, 119, 45, 79, 114, 105, 103, 105, 110]⟩ ⟨#[42]⟩ ⟨#[65, 99, 99, 101, 115, 115, 45, 67, 111, 110, 116, 114, 111, 108, 45, 65, 108, 108, 111, 119, 45, 77, 101, 116, 104, 111, 100, 115]⟩ m.value
    go_wp2_with fail
    refine (HJN.out _ (X3_up hb5)).mono ?_
    rintro e w4 ⟨rfl, hb6⟩
    have hb7 := hb5.trans (hb6.mono hb5.size)
    have ho6 := own_below ho5 hb6
    have hbr : w3.heap.size ≤ w4.heap.size := Nat.le_trans (by simp) hb6.size
    clear m0 m1 m2 m3 m4 a0 a1 a2 a3 a4 a5 a6 r0 r1 r2 r3 f0 f1 f2 f3 hz2 hz1 hz0 hlc1 hlb c0 c1 hzx ho5
    have hlb := Nat.lt_of_lt_of_le (HLB.out) (X3_up hb7).size
    obtain ⟨⟨⟨m0, m1, m2, m3, m4⟩, a0, a1, a2, a3, a4, a5, a6⟩, ⟨r0, r1, r2, r3⟩, f0, f1, f2, f3⟩ := X3_facts HL.out (Keep.of (D := D) hb7)
    have hz2 := X3_lt hb7
    have hz1 := Nat.lt_of_succ_lt hz2
    have hz0 := Nat.lt_of_succ_lt hz1
    have hlc1 := HFB.out _ (X3_up hb7)
    clear hb6 hb5
    obtain ⟨l1, hl1⟩ : ∃ x : List Fl, x = [(⟨#[65, 99, 99, 101, 115, 115, 45, 67, 111, 110, 116, 114, 111, 108, 45, 65, 108, 108, 111, 119, 45, 79, 114, 105, 103, 105, 110]⟩, ⟨#[42]⟩), (⟨#[65, 99, 99, 101, 115, 115, 45, 67, 111, 110, 116, 114, 111, 108, 45, 65, 108, 108, 111, 119, 45, 77, 101, 116, 104, 111, 100, 115]⟩, m.value)] := ⟨_, rfl⟩
    rw [← hl1] at ho6
    have HL1 := Lib.hid hl1
    clear hl1
    go_wp2_with fail
    refine (HDG.out _ (X3_up hb7)).mono ?_
    rintro e w6 ⟨rfl, hbd⟩
    have hb10 := hb7.trans (hbd.mono hb7.size)
    have ho8 := own_below ho6 hbd
    have hbr3 : w3.heap.size ≤ w6.heap.size := Nat.le_trans hbr hbd.size
    clear hbd ho6 hbr hb7 m0 m1 m2 m3 m4 a0 a1 a2 a3 a4 a5 a6 r0 r1 r2 r3 f0 f1 f2 f3 hz2 hz1 hz0 hlc1 hlb
    have hlb := Nat.lt_of_lt_of_le (HLB.out) (X3_up hb10).size
    obtain ⟨⟨⟨m0, m1, m2, m3, m4⟩, a0, a1, a2, a3, a4, a5, a6⟩, ⟨r0, r1, r2, r3⟩, f0, f1, f2, f3⟩ := X3_facts HL.out (Keep.of (D := D) hb10)
    have hz2 := X3_lt hb10
    have hz1 := Nat.lt_of_succ_lt hz2
    have hz0 := Nat.lt_of_succ_lt hz1
    have hlc1 := HFB.out _ (X3_up hb10)
    have hb11 := hb10.alloc hb10.size (.cells #[.string ⟨#[65, 99, 99, 101, 115, 115, 45, 67, 111, 110, 116, 114, 111, 108, 45, 77, 97, 120, 45, 65, 103, 101]⟩, .string dg] 59)
    go_wp2_with (at_builtin; refine wpList_append_any _ rfl _ _ 25 rfl w3.heap.size 59 i0 (.agg #[.string ⟨#[]⟩, .string ⟨#[]⟩]) 2 32 Tryz.underlying25 hi0' hz0' hz1' hz2' rfl (by decide) _ 2 (flat (l1)) rfl (ho8.alloc _) _ (some ⟨w6.heap.size, 0, none⟩) 1 1 (flat ([(⟨#[65, 99, 99, 101, 115, 115, 45, 67, 111, 110, 116, 114, 111, 108, 45, 77, 97, 120, 45, 65, 103, 101]⟩, dg)])) rfl (reads_of_row (row_field w6 ⟨#[65, 99, 99, 101, 115, 115, 45, 67, 111, 110, 116, 114, 111, 108, 45, 77, 97, 120, 45, 65, 103, 101]⟩ dg rfl) (flat_length _) (by decide)) ?av7d ?bv7d ?cv7d ?dv7d ?ev7d)
    case av7d => exact flat_oneCell _
    case bv7d => have := HVF.out.2; unfold maxLen; omega
    case cv7d => have := HVF.out.2; omega
    case dv7d => simp; omega
    case ev7d =>
     intro v2 w7 hown7 hg7 _
     have ho9 : w7.ownsRow w3.heap.size 59 2 v2 3 (flat (l1 ++ [(⟨#[65, 99, 99, 101, 115, 115, 45, 67, 111, 110, 116, 114, 111, 108, 45, 77, 97, 120, 45, 65, 103, 101]⟩, dg)])) := by rw [flat_append]; exact hown7
     have hb12 : Below (X3 w (midC m (some ⟨lb0, lo0, none⟩) c) (rqC r FA fc TA tc)).heap.size (X3 w (midC m (some ⟨lb0, lo0, none⟩) c) (rqC r FA fc TA tc)) w7 := hb11.grown hg7 (hb11.size) (fun k hk => Nat.le_trans hb4.size (own_lt ho8 k hk))
     have hbr4 : w3.heap.size ≤ w7.heap.size := Nat.le_trans hbr3 (Nat.le_trans (by simp) hg7.size)
     obtain ⟨A7, c7, rfl⟩ := own_slice ho9
     obtain ⟨l2, hl2⟩ : ∃ x : List Fl, x = l1 ++ [(⟨#[65, 99, 99, 101, 115, 115, 45, 67, 111, 110, 116, 114, 111, 108, 45, 77, 97, 120, 45, 65, 103, 101]⟩, dg)] := ⟨_, rfl⟩
     rw [← hl2] at ho9
     have HL2 := Lib.hid hl2
     clear hown7 hg7 ho8 hb11 hbr3 hl2 hb10 m0 m1 m2 m3 m4 a0 a1 a2 a3 a4 a5 a6 r0 r1 r2 r3 f0 f1 f2 f3 hz2 hz1 hz0 hlc1 hlb
     have hlb := Nat.lt_of_lt_of_le (HLB.out) (X3_up hb12).size
     obtain ⟨⟨⟨m0, m1, m2, m3, m4⟩, a0, a1, a2, a3, a4, a5, a6⟩, ⟨r0, r1, r2, r3⟩, f0, f1, f2, f3⟩ := X3_facts HL.out (Keep.of (D := D) hb12)
     have hz2 := X3_lt hb12
     have hz1 := Nat.lt_of_succ_lt hz2
     have hz0 := Nat.lt_of_succ_lt hz1
     have hlc1 := HFB.out _ (X3_up hb12)
     go_wp2_with fail
     refine (HVR.out _ (Keep.of (X3_up hb12))).mono ?_
     rintro e w8 ⟨VA, vc, rfl, hov, hbv⟩
     have hb13 := hb12.trans (hbv.mono hb12.size)
     have ho10 := own_below ho9 hbv
     have hbr5 : w3.heap.size ≤ w8.heap.size := Nat.le_trans hbr4 hbv.size
     have hrv := own_row hov
     clear hbv ho9 hbr4 hov hb12 m0 m1 m2 m3 m4 a0 a1 a2 a3 a4 a5 a6 r0 r1 r2 r3 f0 f1 f2 f3 hz2 hz1 hz0 hlc1 hlb
     have hlb := Nat.lt_of_lt_of_le (HLB.out) (X3_up hb13).size
     obtain ⟨⟨⟨m0, m1, m2, m3, m4⟩, a0, a1, a2, a3, a4, a5, a6⟩, ⟨r0, r1, r2, r3⟩, f0, f1, f2, f3⟩ := X3_facts HL.out (Keep.of (D := D) hb13)
     have hz2 := X3_lt hb13
     have hz1 := Nat.lt_of_succ_lt hz2
     have hz0 := Nat.lt_of_succ_lt hz1
     have hlc1 := HFB.out _ (X3_up hb13)
     go_wp2_with (at_builtin; refine wpList_append_any _ rfl _ _ 25 rfl w3.heap.size 59 i0 (.agg #[.string ⟨#[]⟩, .string ⟨#[]⟩]) 2 32 Tryz.underlying25 hi0' hz0' hz1' hz2' rfl (by decide) _ 3 (flat (l2)) rfl ho10 _ VA vp.length vc (flat (vp)) rfl (reads_of_row hrv (flat_length _) (by decide)) ?av7f ?bv7f ?cv7f ?dv7f ?ev7f)
     case av7f => exact flat_oneCell _
     case bv7f => have := HVF.out.2; unfold maxLen; omega
     case cv7f => have := HVF.out.2; omega
     case dv7f => exact hbr5
     case ev7f =>
      intro v3 w9 hown9 hg9 _
      have ho11 : w9.ownsRow w3.heap.size 59 2 v3 (3 + vp.length) (flat (l2 ++ vp)) := by rw [flat_append]; exact hown9
      have hb14 : Below (X3 w (midC m (some ⟨lb0, lo0, none⟩) c) (rqC r FA fc TA tc)).heap.size (X3 w (midC m (some ⟨lb0, lo0, none⟩) c) (rqC r FA fc TA tc)) w9 := hb13.grown hg9 (hb13.size) (fun k hk => Nat.le_trans hb4.size (own_lt ho10 k hk))
      obtain ⟨A9, c9, rfl⟩ := own_slice ho11
      clear hown9 hg9 ho10 hrv hb13 m0 m1 m2 m3 m4 a0 a1 a2 a3 a4 a5 a6 r0 r1 r2 r3 f0 f1 f2 f3 hz2 hz1 hz0 hlc1 hlb
      have hl2n : l2.length = 3 := by rw [HL2.out, HL1.out]; simp
      have hln : 3 + vp.length = (l2 ++ vp).length := by rw [List.length_append, hl2n]
      have HO := Lib.hid (own_less (b' := (X3 w (midC m (some ⟨lb0, lo0, none⟩) c) (rqC r FA fc TA tc)).heap.size) ho11 hb4.size)
      rw [hln] at HO
      have HLN := Lib.hid hln
      clear hln hl2n ho11
      obtain ⟨⟨⟨r0, r1, r2, r3⟩, f0, f1, f2, f3⟩, hz2⟩ := X3_resF HL.out hX0 (Keep.of hb14)
      have HBW := Lib.hid (X3_up hb14)
      clear hb14 hb4
      have HXE := Lib.hid (show aheadP m r = .inr ⟨204, ⟨#[]⟩, l2 ++ vp, ⟨#[]⟩⟩ by rw [HAI.out, HL2.out, HL1.out, if_neg HJB.out, if_neg HVB.out]; rfl)
      have HFY := Lib.hid (show FitS 8 ⟨204, ⟨#[]⟩, l2 ++ vp, ⟨#[]⟩⟩ by have h := HFX.out; rw [if_neg HJB.out, if_neg HVB.out] at h; rw [HL2.out, HL1.out]; exact h)
      go_wp2
      exact bodyPost_ret (v := rsV ⟨204, ⟨#[]⟩, l2 ++ vp, ⟨#[]⟩⟩ A9 c9) (by simp [results, Tryz.results71, go_sem, rsV, r0, r1, r2, r3, ← HLN.out]) rfl
       (fin_self (b := w.heap.size + 1 + 1) (x := ⟨204, ⟨#[]⟩, l2 ++ vp, ⟨#[]⟩⟩) HL.out hWx (by omega) (by rw [X3_size]; omega) HBW.out HO.out HXE.out (HFY.out.more (by have := HN8.out; omega)) _ _ _ _)
   ·rw [h1] at hst
    rw [h2] at HCS
    clear h1 h2
    go_enter Tryz.func71, Tryz.ntmps71
    go_wp2_with fail
    refine (HO1.out _ hWx).mono ?_
    rintro e w1 ⟨rfl, hb1⟩
    have hb1 : Below (X3 w (midC m (some ⟨lb0, lo0, none⟩) c) (rqC r FA fc TA tc)).heap.size (X3 w (midC m (some ⟨lb0, lo0, none⟩) c) (rqC r FA fc TA tc)) w1 := hb1
    have hlb := Nat.lt_of_lt_of_le hlb (X3_up hb1).size
    obtain ⟨⟨⟨m0, m1, m2, m3, m4⟩, a0, a1, a2, a3, a4, a5, a6⟩, ⟨r0, r1, r2, r3⟩, f0, f1, f2, f3⟩ := X3_facts HL.out (Keep.of (D := D) hb1)
    have hz2 := X3_lt hb1
    have hz1 := Nat.lt_of_succ_lt hz2
    have hz0 := Nat.lt_of_succ_lt hz1
    have hlc1 := HFB.out _ (X3_up hb1)
    go_wp2_with fail
    refine (HCS.out _ (X3_up hb1)).mono ?_
    rintro e w9 ⟨rfl, rfl⟩
    have hb2 := hb1.alloc hb1.size (.cells #[.string ⟨#[65, 99, 99, 101, 115, 115, 45, 67, 111, 110, 116, 114, 111, 108, 45, 65, 108, 108, 111, 119, 45, 79, 114, 105, 103, 105, 110]⟩, .string ov] 59)
    go_wp2_with fail
    refine (HO2.out _ (X3_up hb2)).mono ?_
    rintro e w3 ⟨rfl, hb3⟩
    have hbx : Below (w1.heap.size + 1) (w1.alloc (.cells #[.string ⟨#[65, 99, 99, 101, 115, 115, 45, 67, 111, 110, 116, 114, 111, 108, 45, 65, 108, 108, 111, 119, 45, 79, 114, 105, 103, 105, 110]⟩, .string ov] 59)) w3 := by simpa using hb3
    have hb4 := hb2.trans (hb3.mono hb2.size)
    obtain ⟨c0, c1⟩ := cell2 hbx
    have hzx : w1.heap.size < w3.heap.size := box_size hbx
    clear m0 m1 m2 m3 m4 a0 a1 a2 a3 a4 a5 a6 r0 r1 r2 r3 f0 f1 f2 f3 hz2 hz1 hz0 hlc1 hlb hb3 hbx hb2
    have hlb := Nat.lt_of_lt_of_le (HLB.out) (X3_up hb4).size
    obtain ⟨⟨⟨m0, m1, m2, m3, m4⟩, a0, a1, a2, a3, a4, a5, a6⟩, ⟨r0, r1, r2, r3⟩, f0, f1, f2, f3⟩ := X3_facts HL.out (Keep.of (D := D) hb4)
    have hz2 := X3_lt hb4
    have hz1 := Nat.lt_of_succ_lt hz2
    have hz0 := Nat.lt_of_succ_lt hz1
    have hlc1 := HFB.out _ (X3_up hb4)
    have hb5 := hb4.alloc hb4.size (.cells #[.string ⟨#[65, 99, 99, 101, 115, 115, 45, 67, 111, 110, 116, 114, 111, 108, 45, 65, 108, 108, 111, 119, 45, 79, 114, 105, 103, 105, 110]⟩, .string ov, .string ⟨#[65, 99, 99, 101, 115, 115, 45, 67, 111, 110, 116, 114, 111, 108, 45, 65, 108, 108, 111, 119, 45, 77, 101, 116, 104, 111, 100, 115]⟩, .string m.value] 59)
    have ho5 := lit2 w3 ⟨#[65, 99, 99, 101, 115, 115, 45, 67, 111, 110, 116, 114, 111, 108, 45, 65, 108, 108, 111, 119, 45, 79, 114, 105, 103, 105, 110]⟩ ov ⟨#[65, 99, 99, 101, 115, 115, 45, 67, 111, 110, 116, 114, 111, 108, 45, 65, 108, 108, 111, 119, 45, 77, 101, 116, 104, 111, 100, 115]⟩ m.value
    go_wp2_with fail
    refine (HJN.out _ (X3_up hb5)).mono ?_
    rintro e w4 ⟨rfl, hb6⟩
    have hb7 := hb5.trans (hb6.mono hb5.size)
    have ho6 := own_below ho5 hb6
    have hbr : w3.heap.size ≤ w4.heap.size := Nat.le_trans (by simp) hb6.size
    clear m0 m1 m2 m3 m4 a0 a1 a2 a3 a4 a5 a6 r0 r1 r2 r3 f0 f1 f2 f3 hz2 hz1 hz0 hlc1 hlb c0 c1 hzx ho5
    have hlb := Nat.lt_of_lt_of_le (HLB.out) (X3_up hb7).size
    obtain ⟨⟨⟨m0, m1, m2, m3, m4⟩, a0, a1, a2, a3, a4, a5, a6⟩, ⟨r0, r1, r2, r3⟩, f0, f1, f2, f3⟩ := X3_facts HL.out (Keep.of (D := D) hb7)
    have hz2 := X3_lt hb7
    have hz1 := Nat.lt_of_succ_lt hz2
    have hz0 := Nat.lt_of_succ_lt hz1
    have hlc1 := HFB.out _ (X3_up hb7)
    clear hb6 hb5
    obtain ⟨l1, hl1⟩ : ∃ x : List Fl, x = [(⟨#[65, 99, 99, 101, 115, 115, 45, 67, 111, 110, 116, 114, 111, 108, 45, 65, 108, 108, 111, 119, 45, 79, 114, 105, 103, 105, 110]⟩, ov), (⟨#[65, 99, 99, 101, 115, 115, 45, 67, 111, 110, 116, 114, 111, 108, 45, 65, 108, 108, 111, 119, 45, 77, 101, 116, 104, 111, 100, 115]⟩, m.value)] := ⟨_, rfl⟩
    rw [← hl1] at ho6
    have HL1 := Lib.hid hl1
    clear hl1
    go_wp2_with fail
    refine (HDG.out _ (X3_up hb7)).mono ?_
    rintro e w6 ⟨rfl, hbd⟩
    have hb10 := hb7.trans (hbd.mono hb7.size)
    have ho8 := own_below ho6 hbd
    have hbr3 : w3.heap.size ≤ w6.heap.size := Nat.le_trans hbr hbd.size
    clear hbd ho6 hbr hb7 m0 m1 m2 m3 m4 a0 a1 a2 a3 a4 a5 a6 r0 r1 r2 r3 f0 f1 f2 f3 hz2 hz1 hz0 hlc1 hlb
    have hlb := Nat.lt_of_lt_of_le (HLB.out) (X3_up hb10).size
    obtain ⟨⟨⟨m0, m1, m2, m3, m4⟩, a0, a1, a2, a3, a4, a5, a6⟩, ⟨r0, r1, r2, r3⟩, f0, f1, f2, f3⟩ := X3_facts HL.out (Keep.of (D := D) hb10)
    have hz2 := X3_lt hb10
    have hz1 := Nat.lt_of_succ_lt hz2
    have hz0 := Nat.lt_of_succ_lt hz1
    have hlc1 := HFB.out _ (X3_up hb10)
    have hb11 := hb10.alloc hb10.size (.cells #[.string ⟨#[65, 99, 99, 101, 115, 115, 45, 67, 111, 110, 116, 114, 111, 108, 45, 77, 97, 120, 45, 65, 103, 101]⟩, .string dg] 59)
    go_wp2_with (at_builtin; refine wpList_append_any _ rfl _ _ 25 rfl w3.heap.size 59 i0 (.agg #[.string ⟨#[]⟩, .string ⟨#[]⟩]) 2 32 Tryz.underlying25 hi0' hz0' hz1' hz2' rfl (by decide) _ 2 (flat (l1)) rfl (ho8.alloc _) _ (some ⟨w6.heap.size, 0, none⟩) 1 1 (flat ([(⟨#[65, 99, 99, 101, 115, 115, 45, 67, 111, 110, 116, 114, 111, 108, 45, 77, 97, 120, 45, 65, 103, 101]⟩, dg)])) rfl (reads_of_row (row_field w6 ⟨#[65, 99, 99, 101, 115, 115, 45, 67, 111, 110, 116, 114, 111, 108, 45, 77, 97, 120, 45, 65, 103, 101]⟩ dg rfl) (flat_length _) (by decide)) ?av8d ?bv8d ?cv8d ?dv8d ?ev8d)
    case av8d => exact flat_oneCell _
    case bv8d => have := HVF.out.2; unfold maxLen; omega
    case cv8d => have := HVF.out.2; omega
    case dv8d => simp; omega
    case ev8d =>
     intro v2 w7 hown7 hg7 _
     have ho9 : w7.ownsRow w3.heap.size 59 2 v2 3 (flat (l1 ++ [(⟨#[65, 99, 99, 101, 115, 115, 45, 67, 111, 110, 116, 114, 111, 108, 45, 77, 97, 120, 45, 65, 103, 101]⟩, dg)])) := by rw [flat_append]; exact hown7
     have hb12 : Below (X3 w (midC m (some ⟨lb0, lo0, none⟩) c) (rqC r FA fc TA tc)).heap.size (X3 w (midC m (some ⟨lb0, lo0, none⟩) c) (rqC r FA fc TA tc)) w7 := hb11.grown hg7 (hb11.size) (fun k hk => Nat.le_trans hb4.size (own_lt ho8 k hk))
     have hbr4 : w3.heap.size ≤ w7.heap.size := Nat.le_trans hbr3 (Nat.le_trans (by simp) hg7.size)
     obtain ⟨A7, c7, rfl⟩ := own_slice ho9
     obtain ⟨l2, hl2⟩ : ∃ x : List Fl, x = l1 ++ [(⟨#[65, 99, 99, 101, 115, 115, 45, 67, 111, 110, 116, 114, 111, 108, 45, 77, 97, 120, 45, 65, 103, 101]⟩, dg)] := ⟨_, rfl⟩
     rw [← hl2] at ho9
     have HL2 := Lib.hid hl2
     clear hown7 hg7 ho8 hb11 hbr3 hl2 hb10 m0 m1 m2 m3 m4 a0 a1 a2 a3 a4 a5 a6 r0 r1 r2 r3 f0 f1 f2 f3 hz2 hz1 hz0 hlc1 hlb
     have hlb := Nat.lt_of_lt_of_le (HLB.out) (X3_up hb12).size
     obtain ⟨⟨⟨m0, m1, m2, m3, m4⟩, a0, a1, a2, a3, a4, a5, a6⟩, ⟨r0, r1, r2, r3⟩, f0, f1, f2, f3⟩ := X3_facts HL.out (Keep.of (D := D) hb12)
     have hz2 := X3_lt hb12
     have hz1 := Nat.lt_of_succ_lt hz2
     have hz0 := Nat.lt_of_succ_lt hz1
     have hlc1 := HFB.out _ (X3_up hb12)
     go_wp2_with fail
     refine (HVR.out _ (Keep.of (X3_up hb12))).mono ?_
     rintro e w8 ⟨VA, vc, rfl, hov, hbv⟩
     have hb13 := hb12.trans (hbv.mono hb12.size)
     have ho10 := own_below ho9 hbv
     have hbr5 : w3.heap.size ≤ w8.heap.size := Nat.le_trans hbr4 hbv.size
     have hrv := own_row hov
     clear hbv ho9 hbr4 hov hb12 m0 m1 m2 m3 m4 a0 a1 a2 a3 a4 a5 a6 r0 r1 r2 r3 f0 f1 f2 f3 hz2 hz1 hz0 hlc1 hlb
     have hlb := Nat.lt_of_lt_of_le (HLB.out) (X3_up hb13).size
     obtain ⟨⟨⟨m0, m1, m2, m3, m4⟩, a0, a1, a2, a3, a4, a5, a6⟩, ⟨r0, r1, r2, r3⟩, f0, f1, f2, f3⟩ := X3_facts HL.out (Keep.of (D := D) hb13)
     have hz2 := X3_lt hb13
     have hz1 := Nat.lt_of_succ_lt hz2
     have hz0 := Nat.lt_of_succ_lt hz1
     have hlc1 := HFB.out _ (X3_up hb13)
     go_wp2_with (at_builtin; refine wpList_append_any _ rfl _ _ 25 rfl w3.heap.size 59 i0 (.agg #[.string ⟨#[]⟩, .string ⟨#[]⟩]) 2 32 Tryz.underlying25 hi0' hz0' hz1' hz2' rfl (by decide) _ 3 (flat (l2)) rfl ho10 _ VA vp.length vc (flat (vp)) rfl (reads_of_row hrv (flat_length _) (by decide)) ?av8f ?bv8f ?cv8f ?dv8f ?ev8f)
     case av8f => exact flat_oneCell _
     case bv8f => have := HVF.out.2; unfold maxLen; omega
     case cv8f => have := HVF.out.2; omega
     case dv8f => exact hbr5
     case ev8f =>
      intro v3 w9 hown9 hg9 _
      have ho11 : w9.ownsRow w3.heap.size 59 2 v3 (3 + vp.length) (flat (l2 ++ vp)) := by rw [flat_append]; exact hown9
      have hb14 : Below (X3 w (midC m (some ⟨lb0, lo0, none⟩) c) (rqC r FA fc TA tc)).heap.size (X3 w (midC m (some ⟨lb0, lo0, none⟩) c) (rqC r FA fc TA tc)) w9 := hb13.grown hg9 (hb13.size) (fun k hk => Nat.le_trans hb4.size (own_lt ho10 k hk))
      obtain ⟨A9, c9, rfl⟩ := own_slice ho11
      clear hown9 hg9 ho10 hrv hb13 m0 m1 m2 m3 m4 a0 a1 a2 a3 a4 a5 a6 r0 r1 r2 r3 f0 f1 f2 f3 hz2 hz1 hz0 hlc1 hlb
      have hl2n : l2.length = 3 := by rw [HL2.out, HL1.out]; simp
      have hln : 3 + vp.length = (l2 ++ vp).length := by rw [List.length_append, hl2n]
      have HO := Lib.hid (own_less (b' := (X3 w (midC m (some ⟨lb0, lo0, none⟩) c) (rqC r FA fc TA tc)).heap.size) ho11 hb4.size)
      rw [hln] at HO
      have HLN := Lib.hid hln
      clear hln hl2n ho11
      obtain ⟨⟨⟨r0, r1, r2, r3⟩, f0, f1, f2, f3⟩, hz2⟩ := X3_resF HL.out hX0 (Keep.of hb14)
      have HBW := Lib.hid (X3_up hb14)
      clear hb14 hb4
      have HXE := Lib.hid (show aheadP m r = .inr ⟨204, ⟨#[]⟩, l2 ++ vp, ⟨#[]⟩⟩ by rw [HAI.out, HL2.out, HL1.out, if_neg HJB.out, if_neg HVB.out]; rfl)
      have HFY := Lib.hid (show FitS 8 ⟨204, ⟨#[]⟩, l2 ++ vp, ⟨#[]⟩⟩ by have h := HFX.out; rw [if_neg HJB.out, if_neg HVB.out] at h; rw [HL2.out, HL1.out]; exact h)
      go_wp2
      exact bodyPost_ret (v := rsV ⟨204, ⟨#[]⟩, l2 ++ vp, ⟨#[]⟩⟩ A9 c9) (by simp [results, Tryz.results71, go_sem, rsV, r0, r1, r2, r3, ← HLN.out]) rfl
       (fin_self (b := w.heap.size + 1 + 1) (x := ⟨204, ⟨#[]⟩, l2 ++ vp, ⟨#[]⟩⟩) HL.out hWx (by omega) (by rw [X3_size]; omega) HBW.out HO.out HXE.out (HFY.out.more (by have := HN8.out; omega)) _ _ _ _)
end Go.Proofs.YtbnafbdhomdcoaaGreatDoor
