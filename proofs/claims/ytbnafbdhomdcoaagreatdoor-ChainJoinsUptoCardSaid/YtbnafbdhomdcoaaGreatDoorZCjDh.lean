/-
 CjDh, without what this claim does not reach.
-/
import Derived.Test.YtbnafbdhomdcoaaGreatDoorZCjDg
import Derived.Test.YtbnafbdhomdcoaaGreatDoorZm26
import Derived.Test.YtbnafbdhomdcoaaGreatDoorZm27
namespace Go.Proofs.YtbnafbdhomdcoaaGreatDoor
open Go.RowKit Go.Shelf Go.Lib
theorem orig_pass {m : Mid} {r : Rq} (hk : m.kind = 8) (h : fromP m r = none) : aheadP m r = .inl r ∧ behindP m r = fun y => { y with fields := y.fields ++ varyP m } := by
 refine ⟨?_, ?_⟩
 ·unfold aheadP flightP
  rw [if_neg (by omega), if_neg (by omega), if_neg (by omega), if_neg (by omega), if_pos hk, h]
 ·funext y
  unfold behindP
  rw [if_neg (by omega), if_neg (by omega), if_neg (by omega), if_pos hk, h]
  simp
theorem orig_allow {m : Mid} {r : Rq} {o : ByteArray} (hk : m.kind = 8) (h : fromP m r = some o) (hf : flightP m r = none) : aheadP m r = .inl r ∧ behindP m r = fun y => { y with fields := (y.fields ++ [(acaoN, o)]) ++ varyP m } := by
 refine ⟨?_, ?_⟩
 ·unfold aheadP
  rw [if_neg (by omega), if_neg (by omega), if_neg (by omega), if_neg (by omega), if_pos hk, hf]
 ·funext y
  unfold behindP
  rw [if_neg (by omega), if_neg (by omega), if_neg (by omega), if_pos hk, h]
theorem orig_flight {m : Mid} {r : Rq} {x : ByteArray × ByteArray} (hk : m.kind = 8) (hf : flightP m r = some x) : aheadP m r = .inr (flightRs m r x) := by
 unfold aheadP
 rw [if_neg (by omega), if_neg (by omega), if_neg (by omega), if_neg (by omega), if_pos hk, hf]
theorem from_none {m : Mid} {r : Rq} (h : onlyP r.fields originN = none) : fromP m r = none := by unfold fromP; rw [h]
theorem from_some {m : Mid} {r : Rq} {s : ByteArray} (h : onlyP r.fields originN = some s) : fromP m r = if firstStar m = true then some starV else if isIn m.list s = true then some s else none := by unfold fromP; rw [h]
theorem flight_no {m : Mid} {r : Rq} (h : onlyP r.fields acrmN = none ∨ ¬ r.method = optsT) : flightP m r = none := by
 unfold flightP
 cases fromP m r with
 | none => rfl
 | some o =>
  dsimp only
  cases ha : onlyP r.fields acrmN with
  | none => rfl
  | some v =>
   dsimp only
   rcases h with h | h
   ·rw [ha] at h; cases h
   ·rw [if_neg h]
theorem flight_yes {m : Mid} {r : Rq} {o v : ByteArray} (h : fromP m r = some o) (ha : onlyP r.fields acrmN = some v) (hm : r.method = optsT) : flightP m r = some (o, if m.value.size = 0 then v else m.value) := by
 unfold flightP
 rw [h]
 dsimp only
 rw [ha]
 dsimp only
 rw [if_pos hm]
theorem originN_size : originN.size ≤ maxLen := by unfold maxLen; decide +kernel
theorem acrmN_size : acrmN.size ≤ maxLen := by unfold maxLen; decide +kernel
theorem acrhN_size : acrhN.size ≤ maxLen := by unfold maxLen; decide +kernel
def DoR (m : Mid) (g : FuncId) (r : Rq) : Prop := ∀ (D : Nat → Prop) (Pre : World → Prop) (n0 N : Nat) (T : Ans) (f : Value) (w : World) (A : Option Addr) (c : Nat) (FA : Option Addr) (fc : Nat) (TA : Option Addr) (tc : Nat),
  Env D Pre w → Pre w → Nx D Pre n0 N w f T → n0 ≤ w.heap.size → 8 ≤ N → N ≤ 1099511627776 → RowD D w A (m.list.map .string) → m.list.length ≤ c → RowD D w FA (flat r.fields) → RowD D w TA (flat r.trailers) → FitM m → FitQ r →
   Calls Tryz.prog g #[midV m A c, rqV r FA fc TA tc, f] w (GivesX D n0 (N + 2) (doT m T r) w)
theorem RowD.lit {D : Nat → Prop} {W : World} {a b : ByteArray} (hD : ∀ k, D k → k < W.heap.size) : RowD D (W.alloc (.cells #[.string a, .string b] 59)) (some ⟨W.heap.size, 0, none⟩) (flat [(a, b)]) := fun hl => by
 obtain ⟨b0, off, e, hb, hc⟩ := row_field W a b rfl hl
 injection e with e
 injection e with e e2
 subst e
 subst e2
 exact ⟨_, _, rfl, hb, fun hd => by have := hD _ hd; omega, hc⟩
theorem fit_append {N : Nat} {y : Rs} {l : List Fl} (h : FitS N y) (hl : l.length ≤ 2) (hw : Wide l) : FitS (N + 2) { y with fields := y.fields ++ l } :=
 ⟨by show (y.fields ++ l).length ≤ _; have := h.many; rw [List.length_append]; omega, wide_append h.wide hw⟩
theorem first_cell {m : Mid} {w : World} {A : Option Addr} (h : Row w A (m.list.map .string)) (h0 : 0 < m.list.length) : ∃ b off s0, A = some ⟨b, off, none⟩ ∧ b < w.heap.size ∧ w.cell? ⟨b, off, none⟩ = some (.string s0) ∧ (s0.toList == [42]) = firstStar m := by
 obtain ⟨s, hs⟩ := some_of_lt h0
 obtain ⟨b, off, e, hb, hc⟩ := h.str hs
 exact ⟨b, off, s, e, hb, by simpa using hc, by rw [star_eq, first_at hs]⟩
set_option maxRecDepth 20000 in
set_option maxHeartbeats 16000000 in
theorem origin_pass {m : Mid} {r : Rq} (hkd : m.kind = 8) (h0l : 0 < m.list.length) (hfr : fromP m r = none) : DoR m 71 r := by
 intro D Pre n0 N T f w A c FA fc TA tc hE hP hX hn0 hN8 hN hA hcap hF hT hm hr
 obtain ⟨g, lb, rfl, he, hc⟩ := hX
 obtain ⟨lb0, lo0, sf, rfl, hlb, hlc, hst⟩ := first_cell hA.row h0l
 have HC := Lib.hid (nx_call fc tc hE hP hc hF hT hr)
 have HL := Lib.hid hE.low
 have HG := Lib.hid (fun W h => hE.globC (W := W) h)
 have HN0 := Lib.hid hn0
 have HN8 := Lib.hid hN8
 have HN := Lib.hid hN
 have HON := Lib.hid (fun (name : ByteArray) (hz : name.size ≤ maxLen) (W : World) (h : Below w.heap.size w W) => only_any r FA fc TA tc name W (hF.below h).row hr hz)
 have HCT := Lib.hid (fun (s : ByteArray) (W : World) (h : Below w.heap.size w W) => Contains_any (some ⟨lb0, lo0, none⟩) c m.list s W (hA.below h).row (list_ok hm.list).1)
 have HVR := Lib.hid (fun (W : World) (h : Keep D w W) => vary_any m (some ⟨lb0, lo0, none⟩) c W (hA.keep h).row h0l)
 have HVF := Lib.hid (varyP_fit m)
 have HFB := Lib.hid (fun (W : World) (h : Below w.heap.size w W) => ((h.cell (p := ⟨lb0, lo0, none⟩) hlb).trans hlc))
 have HSC := Lib.hid (fun (W : World) (h : Keep D (X3 w (midC m (some ⟨lb0, lo0, none⟩) c) (rqC r FA fc TA tc)) W) => (⟨(X3_facts hE.low h).1.1, (X3_facts hE.low h).1.2⟩ : (W.cell? ⟨w.heap.size, 0, none⟩ = some (.int .i64 m.kind) ∧ W.cell? ⟨w.heap.size, 1, none⟩ = some (.string m.name) ∧ W.cell? ⟨w.heap.size, 2, none⟩ = some (.string m.value) ∧ W.cell? ⟨w.heap.size, 3, none⟩ = some (.slice (some ⟨lb0, lo0, none⟩) m.list.length c) ∧ W.cell? ⟨w.heap.size, 4, none⟩ = some (.int .i64 m.n)) ∧ (W.cell? ⟨w.heap.size + 1, 0, none⟩ = some (.string r.method) ∧ W.cell? ⟨w.heap.size + 1, 1, none⟩ = some (.string r.target) ∧ W.cell? ⟨w.heap.size + 1, 2, none⟩ = some (.int .i64 r.major) ∧ W.cell? ⟨w.heap.size + 1, 3, none⟩ = some (.int .i64 r.minor) ∧ W.cell? ⟨w.heap.size + 1, 4, none⟩ = some (.slice FA r.fields.length fc) ∧ W.cell? ⟨w.heap.size + 1, 5, none⟩ = some (.string r.body) ∧ W.cell? ⟨w.heap.size + 1, 6, none⟩ = some (.slice TA r.trailers.length tc))))
 obtain ⟨hai, hbe⟩ := orig_pass hkd hfr
 have HAI := Lib.hid hai
 have HBE := Lib.hid hbe
 have hfs : onlyP r.fields originN = none ∨ ∃ s, onlyP r.fields originN = some s ∧ firstStar m = false ∧ isIn m.list s = false := by
  cases hon : onlyP r.fields originN with
  | none => exact .inl rfl
  | some s =>
   rw [from_some hon] at hfr
   cases h1 : firstStar m
   ·cases h2 : isIn m.list s
    ·exact .inr ⟨s, rfl, rfl, h2⟩
    ·rw [h1, h2] at hfr; cases hfr
   ·rw [h1] at hfr; cases hfr
 clear hai hbe hfr
 have hi0 : (0 : Int) < (m.list.length : Int) := by omega
 have hX0 := Below.refl (X3 w (midC m (some ⟨lb0, lo0, none⟩) c) (rqC r FA fc TA tc)).heap.size (X3 w (midC m (some ⟨lb0, lo0, none⟩) c) (rqC r FA fc TA tc))
 have hWx : Below w.heap.size w (X3 w (midC m (some ⟨lb0, lo0, none⟩) c) (rqC r FA fc TA tc)) := X3_below w _ _
 clear hc hE hP hn0 hN8 hN hA hcap hF hT hm hr hkd h0l
 generalize varyP m = vp at *
 unfold midV rqV at *
 rcases hfs with hon | ⟨s, hon, hs1, hs2⟩
 ·have HO1 := Lib.hid (fun W h => HON.out originN originN_size W h)
  rw [hon] at HO1
  unfold onlyVal originN at HO1
  clear hon HON
  go_enter Tryz.func71, Tryz.ntmps71
  go_wp2_with fail
  refine (HO1.out _ hWx).mono ?_
  rintro e w1 ⟨rfl, hb1⟩
  have hb1 : Below (X3 w (midC m (some ⟨lb0, lo0, none⟩) c) (rqC r FA fc TA tc)).heap.size (X3 w (midC m (some ⟨lb0, lo0, none⟩) c) (rqC r FA fc TA tc)) w1 := hb1
  have hlb := Nat.lt_of_lt_of_le hlb (X3_up hb1).size
  obtain ⟨⟨⟨m0, m1, m2, m3, m4⟩, a0, a1, a2, a3, a4, a5, a6⟩, ⟨r0, r1, r2, r3⟩, f0, f1, f2, f3⟩ := X3_facts HL.out (Keep.of (D := D) hb1)
  have hz2 := X3_lt hb1
  have hz1 := Nat.lt_of_succ_lt hz2
  have hz0 := Nat.lt_of_succ_lt hz1
  have hlc1 := HFB.out _ (X3_up hb1)
  go_wp2_with fail
  have hBd := below_dr hb1
  have hS0 := HSC.out _ (Keep.of hBd)
  refine region_T (t := 6) (S := fun W => (W.cell? ⟨w.heap.size, 0, none⟩ = some (.int .i64 m.kind) ∧ W.cell? ⟨w.heap.size, 1, none⟩ = some (.string m.name) ∧ W.cell? ⟨w.heap.size, 2, none⟩ = some (.string m.value) ∧ W.cell? ⟨w.heap.size, 3, none⟩ = some (.slice (some ⟨lb0, lo0, none⟩) m.list.length c) ∧ W.cell? ⟨w.heap.size, 4, none⟩ = some (.int .i64 m.n)) ∧ (W.cell? ⟨w.heap.size + 1, 0, none⟩ = some (.string r.method) ∧ W.cell? ⟨w.heap.size + 1, 1, none⟩ = some (.string r.target) ∧ W.cell? ⟨w.heap.size + 1, 2, none⟩ = some (.int .i64 r.major) ∧ W.cell? ⟨w.heap.size + 1, 3, none⟩ = some (.int .i64 r.minor) ∧ W.cell? ⟨w.heap.size + 1, 4, none⟩ = some (.slice FA r.fields.length fc) ∧ W.cell? ⟨w.heap.size + 1, 5, none⟩ = some (.string r.body) ∧ W.cell? ⟨w.heap.size + 1, 6, none⟩ = some (.slice TA r.trailers.length tc))) (by kernel_rfl) hS0 (fun hHeld => ?_)
  refine' anyT_take (i := 0) (v := _) rfl (by kernel_rfl) (by kernel_rfl) (by kernel_rfl) (by kernel_rfl) (by rfl) (fun _ _ _ h => h) (Or.inl ⟨by rfl, ?h1y⟩) hHeld ?h1r
  case h1y => (intro w hSw; (try dsimp only at hSw); (try simp only [List.getElem_toArray, List.getElem_cons_zero]); go_simp; try (with_reducible rfl))
  (try simp only [List.getElem_toArray, List.getElem_cons_zero, Act.put, List.setIfInBounds_toArray, List.set_cons_zero, List.set_cons_succ])
  refine' anyT_take (i := 1) (v := _) rfl (by kernel_rfl) (by kernel_rfl) (by kernel_rfl) (by kernel_rfl) (by rfl) (fun _ _ _ h => h) (Or.inl ⟨by rfl, ?h2y⟩) hHeld ?h2r
  case h2y => (intro w hSw; (try dsimp only at hSw); obtain ⟨⟨s0, s1, s2, s3, s4⟩, t0, t1, t2, t3, t4, t5, t6⟩ := hSw; (try simp only [List.getElem_toArray, List.getElem_cons_succ, List.getElem_cons_zero]); go_simp; try (with_reducible rfl))
  (try simp only [List.getElem_toArray, List.getElem_cons_succ, List.getElem_cons_zero, Act.put, List.setIfInBounds_toArray, List.set_cons_zero, List.set_cons_succ])
  refine' anyT_take (i := 3) (v := _) rfl (by kernel_rfl) (by kernel_rfl) (by kernel_rfl) (by kernel_rfl) (by rfl) (fun _ _ _ h => h) (Or.inl ⟨by rfl, ?h3y⟩) hHeld ?h3r
  case h3y => (intro w hSw; (try dsimp only at hSw); obtain ⟨⟨s0, s1, s2, s3, s4⟩, t0, t1, t2, t3, t4, t5, t6⟩ := hSw; (try simp only [List.getElem_toArray, List.getElem_cons_succ, List.getElem_cons_zero]); go_simp; try (with_reducible rfl))
  (try simp only [List.getElem_toArray, List.getElem_cons_succ, List.getElem_cons_zero, Act.put, List.setIfInBounds_toArray, List.set_cons_zero, List.set_cons_succ])
  have hKc : Keep D (X3 w (midC m (some ⟨lb0, lo0, none⟩) c) (rqC r FA fc TA tc)) (w1).drew := Keep.of hBd
  have hBc := hBd
  clear hS0 hHeld
  refine anyT_ready (rs := [2]) (by kernel_rfl) (by simp) ?_
  refine (AllReadyT.cons rfl (fun K hK => ?_) AllReadyT.nil)
  go_simp
  refine (HC.out _ (X3_up hBc)).mono ?_
  rintro e wq1 ⟨y, A1, c1, rfl, hrow, hfit, hTT, hk⟩
  obtain ⟨ys, yr, yf, yb⟩ := y
  unfold rsV
  dsimp only at hrow hfit ⊢
  have hX1 := X3_up hBc
  have hwl := X3_lt hBc
  have hKc := hKc.trans hk
  skip
  have hn : Below wq1.heap.size wq1 wq1 := Below.refl _ _
  clear hBc
  (try go_wp2_with fail)
  refine hK.out _ _ (.inr (HSC.out _ hKc)) (fun _ => ?_)
  clear hK K
  (try simp only [List.getElem_toArray, List.getElem_cons_succ, List.getElem_cons_zero, Act.put, List.setIfInBounds_toArray, List.set_cons_zero, List.set_cons_succ])
  refine anyT_ready (rs := [4]) (by kernel_rfl) (by simp) ?_
  refine (AllReadyT.cons rfl (fun K hK => ?_) AllReadyT.nil)
  go_simp
  go_at_call 111
  refine (HVR.out _ (Keep.ahead hWx hKc)).mono ?_
  rintro e wq2 ⟨VA, vc, rfl, hov, hbv⟩
  have hcapv := own_cap hov
  have hr3 := hrow.below hbv
  have hr4 : RowD D wq2 VA (flat vp) := RowD.of_own hov hov (fun k hd => Nat.lt_of_lt_of_le (HL.out k hd) (Keep.ahead hWx hKc).size)
  have hn := hn.trans (hbv.mono hn.size)
  have hKc : Keep D (X3 w (midC m (some ⟨lb0, lo0, none⟩) c) (rqC r FA fc TA tc)) wq2 := hKc.step hbv
  clear hov
  clear hbv
  (try go_wp2_with fail)
  refine hK.out _ _ (.inr (HSC.out _ hKc)) (fun _ => ?_)
  clear hK K
  (try simp only [List.getElem_toArray, List.getElem_cons_succ, List.getElem_cons_zero, Act.put, List.setIfInBounds_toArray, List.set_cons_zero, List.set_cons_succ])
  refine anyT_ready (rs := [5]) (by kernel_rfl) (by simp) ?_
  refine (AllReadyT.cons rfl (fun K hK => ?_) AllReadyT.nil)
  go_simp
  go_at_call 93
  refine (laid_any ys yr yb A1 _ _ _ _ _ _ hr3.row hr4.row (Nat.le_trans hfit.many (Nat.le_trans HN.out (by decide))) (by have := HVF.out.2; omega)).mono ?_
  rintro e wq5 ⟨B5, d5, rfl, hol, hbv⟩
  have hr6 := hr3.below hbv
  have hr7 := hr4.below hbv
  have hr8 : RowD D wq5 B5 _ := RowD.of_own hol hol (fun k hd => Nat.lt_of_lt_of_le (HL.out k hd) (Keep.ahead hWx hKc).size)
  have hnl := hn.size
  have hn := hn.trans (hbv.mono hn.size)
  have hKc : Keep D (X3 w (midC m (some ⟨lb0, lo0, none⟩) c) (rqC r FA fc TA tc)) wq5 := hKc.step hbv
  have hbl := hbv
  (try go_wp2_with fail)
  refine hK.out _ _ (.inr (HSC.out _ hKc)) (fun _ => ?_)
  clear hK K
  (try simp only [List.getElem_toArray, List.getElem_cons_succ, List.getElem_cons_zero, Act.put, List.setIfInBounds_toArray, List.set_cons_zero, List.set_cons_succ])
  refine anyT_ready (rs := [6]) (by kernel_rfl) (by simp) ?_
  refine AllReadyT.cons rfl (fun K hK => ?_) AllReadyT.nil
  obtain ⟨_, ⟨r0, r1, r2, r3⟩, f0, f1, f2, f3⟩ := X3_facts HL.out hKc
  have hz2 : w.heap.size + 1 + 1 < wq5.heap.size := by have := keep_size hKc; omega
  have HKZ := Lib.hid (show Keep (Btw w (w1).drew) wq1 wq5 from Keep.of hn)
  have hsb : ((w1).drew).heap.size ≤ (wq2).heap.size := Nat.le_trans hk.size hnl
  have HO := Lib.hid (own_less (b' := ((w1).drew).heap.size) hol hsb)
  have HTT := Lib.hid hTT
  have HK2 := Lib.hid hk
  have HFT := Lib.hid hfit
  have HX1 := Lib.hid hX1
  have HWL := Lib.hid (show w.heap.size + 1 + 1 < ((w1).drew).heap.size from hwl)
  clear hfit hTT hk hKc hn hol hbl hrow hX1 hsb hcapv hnl hwl hr6 hr7 hr8
  go_simp
  refine hK.out _ _ (.inl (by rfl)) (fun _ => ?_)
  clear hK K
  (try simp only [List.getElem_toArray, List.getElem_cons_succ, List.getElem_cons_zero, Act.put, List.setIfInBounds_toArray, List.set_cons_zero, List.set_cons_succ])
  refine anyT_done (by kernel_rfl) ?_ _
  go_wp2
  exact bodyPost_ret (v := rsV ⟨ys, yr, yf ++ vp, yb⟩ B5 d5) (by simp [results, Tryz.results71, go_sem, rsV, r0, r1, r2, r3]) rfl
   ((fin_own (x := ⟨ys, yr, yf ++ vp, yb⟩) (F := behindP m r) (M := N + 2) (b := w.heap.size + 1 + 1) HL.out HX1.out (by omega) HWL.out HTT.out HK2.out HKZ.out HO.out (by rw [HBE.out]) (fit_append HFT.out (Nat.le_trans HVF.out.2 (by decide)) HVF.out.1) _ _ _ _).imp (Nat.le_refl _) fun _ _ _ h => doT_inl HAI.out h)
 ·have HO1 := Lib.hid (fun W h => HON.out originN originN_size W h)
  rw [hon] at HO1
  unfold onlyVal originN at HO1
  have HCS := Lib.hid (fun W h => HCT.out s W h)
  rw [hs2] at HCS
  rw [hs1] at hst
  clear hon HON HCT hs1 hs2
  go_enter Tryz.func71, Tryz.ntmps71
  go_wp2_with fail
  refine (HO1.out _ hWx).mono ?_
  rintro e w1 ⟨rfl, hb1⟩
  have hb1 : Below (X3 w (midC m (some ⟨lb0, lo0, none⟩) c) (rqC r FA fc TA tc)).heap.size (X3 w (midC m (some ⟨lb0, lo0, none⟩) c) (rqC r FA fc TA tc)) w1 := hb1
  have hlb := Nat.lt_of_lt_of_le hlb (X3_up hb1).size
  obtain ⟨⟨⟨m0, m1, m2, m3, m4⟩, a0, a1, a2, a3, a4, a5, a6⟩, ⟨r0, r1, r2, r3⟩, f0, f1, f2, f3⟩ := X3_facts HL.out (Keep.of (D := D) hb1)
  have hz2 := X3_lt hb1
  have hz1 := Nat.lt_of_succ_lt hz2
  have hz0 := Nat.lt_of_succ_lt hz1
  have hlc1 := HFB.out _ (X3_up hb1)
  go_wp2_with fail
  refine (HCS.out _ (X3_up hb1)).mono ?_
  rintro e w9 ⟨rfl, rfl⟩
  go_wp2_with fail
  have hBd := below_dr hb1
  have hS0 := HSC.out _ (Keep.of hBd)
  refine region_T (t := 6) (S := fun W => (W.cell? ⟨w.heap.size, 0, none⟩ = some (.int .i64 m.kind) ∧ W.cell? ⟨w.heap.size, 1, none⟩ = some (.string m.name) ∧ W.cell? ⟨w.heap.size, 2, none⟩ = some (.string m.value) ∧ W.cell? ⟨w.heap.size, 3, none⟩ = some (.slice (some ⟨lb0, lo0, none⟩) m.list.length c) ∧ W.cell? ⟨w.heap.size, 4, none⟩ = some (.int .i64 m.n)) ∧ (W.cell? ⟨w.heap.size + 1, 0, none⟩ = some (.string r.method) ∧ W.cell? ⟨w.heap.size + 1, 1, none⟩ = some (.string r.target) ∧ W.cell? ⟨w.heap.size + 1, 2, none⟩ = some (.int .i64 r.major) ∧ W.cell? ⟨w.heap.size + 1, 3, none⟩ = some (.int .i64 r.minor) ∧ W.cell? ⟨w.heap.size + 1, 4, none⟩ = some (.slice FA r.fields.length fc) ∧ W.cell? ⟨w.heap.size + 1, 5, none⟩ = some (.string r.body) ∧ W.cell? ⟨w.heap.size + 1, 6, none⟩ = some (.slice TA r.trailers.length tc))) (by kernel_rfl) hS0 (fun hHeld => ?_)
  refine' anyT_take (i := 0) (v := _) rfl (by kernel_rfl) (by kernel_rfl) (by kernel_rfl) (by kernel_rfl) (by rfl) (fun _ _ _ h => h) (Or.inl ⟨by rfl, ?h4y⟩) hHeld ?h4r
  case h4y => (intro w hSw; (try dsimp only at hSw); (try simp only [List.getElem_toArray, List.getElem_cons_zero]); go_simp; try (with_reducible rfl))
  (try simp only [List.getElem_toArray, List.getElem_cons_zero, Act.put, List.setIfInBounds_toArray, List.set_cons_zero, List.set_cons_succ])
  refine' anyT_take (i := 1) (v := _) rfl (by kernel_rfl) (by kernel_rfl) (by kernel_rfl) (by kernel_rfl) (by rfl) (fun _ _ _ h => h) (Or.inl ⟨by rfl, ?h5y⟩) hHeld ?h5r
  case h5y => (intro w hSw; (try dsimp only at hSw); obtain ⟨⟨s0, s1, s2, s3, s4⟩, t0, t1, t2, t3, t4, t5, t6⟩ := hSw; (try simp only [List.getElem_toArray, List.getElem_cons_succ, List.getElem_cons_zero]); go_simp; try (with_reducible rfl))
  (try simp only [List.getElem_toArray, List.getElem_cons_succ, List.getElem_cons_zero, Act.put, List.setIfInBounds_toArray, List.set_cons_zero, List.set_cons_succ])
  refine' anyT_take (i := 3) (v := _) rfl (by kernel_rfl) (by kernel_rfl) (by kernel_rfl) (by kernel_rfl) (by rfl) (fun _ _ _ h => h) (Or.inl ⟨by rfl, ?h6y⟩) hHeld ?h6r
  case h6y => (intro w hSw; (try dsimp only at hSw); obtain ⟨⟨s0, s1, s2, s3, s4⟩, t0, t1, t2, t3, t4, t5, t6⟩ := hSw; (try simp only [List.getElem_toArray, List.getElem_cons_succ, List.getElem_cons_zero]); go_simp; try (with_reducible rfl))
  (try simp only [List.getElem_toArray, List.getElem_cons_succ, List.getElem_cons_zero, Act.put, List.setIfInBounds_toArray, List.set_cons_zero, List.set_cons_succ])
  have hKc : Keep D (X3 w (midC m (some ⟨lb0, lo0, none⟩) c) (rqC r FA fc TA tc)) (w1).drew := Keep.of hBd
  have hBc := hBd
  clear hS0 hHeld
  refine anyT_ready (rs := [2]) (by kernel_rfl) (by simp) ?_
  refine (AllReadyT.cons rfl (fun K hK => ?_) AllReadyT.nil)
  go_simp
  refine (HC.out _ (X3_up hBc)).mono ?_
  rintro e wq9 ⟨y, A1, c1, rfl, hrow, hfit, hTT, hk⟩
  obtain ⟨ys, yr, yf, yb⟩ := y
  unfold rsV
  dsimp only at hrow hfit ⊢
  have hX1 := X3_up hBc
  have hwl := X3_lt hBc
  have hKc := hKc.trans hk
  skip
  have hn : Below wq9.heap.size wq9 wq9 := Below.refl _ _
  clear hBc
  (try go_wp2_with fail)
  refine hK.out _ _ (.inr (HSC.out _ hKc)) (fun _ => ?_)
  clear hK K
  (try simp only [List.getElem_toArray, List.getElem_cons_succ, List.getElem_cons_zero, Act.put, List.setIfInBounds_toArray, List.set_cons_zero, List.set_cons_succ])
  refine anyT_ready (rs := [4]) (by kernel_rfl) (by simp) ?_
  refine (AllReadyT.cons rfl (fun K hK => ?_) AllReadyT.nil)
  go_simp
  go_at_call 111
  refine (HVR.out _ (Keep.ahead hWx hKc)).mono ?_
  rintro e wq10 ⟨VA, vc, rfl, hov, hbv⟩
  have hcapv := own_cap hov
  have hr11 := hrow.below hbv
  have hr12 : RowD D wq10 VA (flat vp) := RowD.of_own hov hov (fun k hd => Nat.lt_of_lt_of_le (HL.out k hd) (Keep.ahead hWx hKc).size)
  have hn := hn.trans (hbv.mono hn.size)
  have hKc : Keep D (X3 w (midC m (some ⟨lb0, lo0, none⟩) c) (rqC r FA fc TA tc)) wq10 := hKc.step hbv
  clear hov
  clear hbv
  (try go_wp2_with fail)
  refine hK.out _ _ (.inr (HSC.out _ hKc)) (fun _ => ?_)
  clear hK K
  (try simp only [List.getElem_toArray, List.getElem_cons_succ, List.getElem_cons_zero, Act.put, List.setIfInBounds_toArray, List.set_cons_zero, List.set_cons_succ])
  refine anyT_ready (rs := [5]) (by kernel_rfl) (by simp) ?_
  refine (AllReadyT.cons rfl (fun K hK => ?_) AllReadyT.nil)
  go_simp
  go_at_call 93
  refine (laid_any ys yr yb A1 _ _ _ _ _ _ hr11.row hr12.row (Nat.le_trans hfit.many (Nat.le_trans HN.out (by decide))) (by have := HVF.out.2; omega)).mono ?_
  rintro e wq13 ⟨B5, d5, rfl, hol, hbv⟩
  have hr14 := hr11.below hbv
  have hr15 := hr12.below hbv
  have hr16 : RowD D wq13 B5 _ := RowD.of_own hol hol (fun k hd => Nat.lt_of_lt_of_le (HL.out k hd) (Keep.ahead hWx hKc).size)
  have hnl := hn.size
  have hn := hn.trans (hbv.mono hn.size)
  have hKc : Keep D (X3 w (midC m (some ⟨lb0, lo0, none⟩) c) (rqC r FA fc TA tc)) wq13 := hKc.step hbv
  have hbl := hbv
  (try go_wp2_with fail)
  refine hK.out _ _ (.inr (HSC.out _ hKc)) (fun _ => ?_)
  clear hK K
  (try simp only [List.getElem_toArray, List.getElem_cons_succ, List.getElem_cons_zero, Act.put, List.setIfInBounds_toArray, List.set_cons_zero, List.set_cons_succ])
  refine anyT_ready (rs := [6]) (by kernel_rfl) (by simp) ?_
  refine AllReadyT.cons rfl (fun K hK => ?_) AllReadyT.nil
  obtain ⟨_, ⟨r0, r1, r2, r3⟩, f0, f1, f2, f3⟩ := X3_facts HL.out hKc
  have hz2 : w.heap.size + 1 + 1 < wq13.heap.size := by have := keep_size hKc; omega
  have HKZ := Lib.hid (show Keep (Btw w (w1).drew) wq9 wq13 from Keep.of hn)
  have hsb : ((w1).drew).heap.size ≤ (wq10).heap.size := Nat.le_trans hk.size hnl
  have HO := Lib.hid (own_less (b' := ((w1).drew).heap.size) hol hsb)
  have HTT := Lib.hid hTT
  have HK2 := Lib.hid hk
  have HFT := Lib.hid hfit
  have HX1 := Lib.hid hX1
  have HWL := Lib.hid (show w.heap.size + 1 + 1 < ((w1).drew).heap.size from hwl)
  clear hfit hTT hk hKc hn hol hbl hrow hX1 hsb hcapv hnl hwl hr14 hr15 hr16
  go_simp
  refine hK.out _ _ (.inl (by rfl)) (fun _ => ?_)
  clear hK K
  (try simp only [List.getElem_toArray, List.getElem_cons_succ, List.getElem_cons_zero, Act.put, List.setIfInBounds_toArray, List.set_cons_zero, List.set_cons_succ])
  refine anyT_done (by kernel_rfl) ?_ _
  go_wp2
  exact bodyPost_ret (v := rsV ⟨ys, yr, yf ++ vp, yb⟩ B5 d5) (by simp [results, Tryz.results71, go_sem, rsV, r0, r1, r2, r3]) rfl
   ((fin_own (x := ⟨ys, yr, yf ++ vp, yb⟩) (F := behindP m r) (M := N + 2) (b := w.heap.size + 1 + 1) HL.out HX1.out (by omega) HWL.out HTT.out HK2.out HKZ.out HO.out (by rw [HBE.out]) (fit_append HFT.out (Nat.le_trans HVF.out.2 (by decide)) HVF.out.1) _ _ _ _).imp (Nat.le_refl _) fun _ _ _ h => doT_inl HAI.out h)
end Go.Proofs.YtbnafbdhomdcoaaGreatDoor
