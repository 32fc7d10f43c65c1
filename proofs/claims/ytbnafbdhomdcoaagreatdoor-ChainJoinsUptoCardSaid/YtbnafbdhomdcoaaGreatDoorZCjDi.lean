/-
 CjDi, without what this claim does not reach.
-/
import Derived.Test.YtbnafbdhomdcoaaGreatDoorZCjDh
namespace Go.Proofs.YtbnafbdhomdcoaaGreatDoor
open Go.RowKit Go.Shelf Go.Lib
theorem cell2 {w w1 : World} {a b : Value} {t : TypeId} (h : Below (w.heap.size + 1) (w.alloc (.cells #[a, b] t)) w1) : w1.cell? ⟨w.heap.size, 0, none⟩ = some a ∧ w1.cell? ⟨w.heap.size, 1, none⟩ = some b := ⟨(box6 h 0).1, (box6 h 1).1⟩
set_option maxRecDepth 20000 in
set_option maxHeartbeats 16000000 in
theorem origin_allow {m : Mid} {r : Rq} (hkd : m.kind = 8) (h0l : 0 < m.list.length) {ov : ByteArray} (hfr : fromP m r = some ov) (hq : onlyP r.fields acrmN = none ∨ ¬ r.method = optsT) : DoR m 71 r := by
 intro D Pre n0 N T f w A c FA fc TA tc hE hP hX hn0 hN8 hN hA hcap hF hT hm hr
 obtain ⟨g, lb, rfl, he, hc⟩ := hX
 obtain ⟨lb0, lo0, sf, rfl, hlb, hlc, hst⟩ := first_cell hA.row h0l
 have HC := Lib.hid (nx_call fc tc hE hP hc hF hT hr)
 have HL := Lib.hid hE.low
 have HG := Lib.hid (fun W h => hE.globC (W := W) h)
 have HN0 := Lib.hid hn0
 have HN8 := Lib.hid hN8
 have HN := Lib.hid hN
 have HON := Lib.hid (fun (name : ByteArray) (hz : name.size ≤ maxLen) (W : World) (h : Below w.heap.size w W) => only_any r FA fc TA tc name W (hF.below h).row hr hz)
 have HCT := Lib.hid (fun (s : ByteArray) (W : World) (h : Below w.heap.size w W) => Contains_any (some ⟨lb0, lo0, none⟩) c m.list s W (hA.below h).row (list_ok hm.list).1)
 have HVR := Lib.hid (fun (W : World) (h : Keep D w W) => vary_any m (some ⟨lb0, lo0, none⟩) c W (hA.keep h).row h0l)
 have HVF := Lib.hid (varyP_fit m)
 have HFB := Lib.hid (fun (W : World) (h : Below w.heap.size w W) => ((h.cell (p := ⟨lb0, lo0, none⟩) hlb).trans hlc))
 have HSC := Lib.hid (fun (W : World) (h : Keep D (X3 w (midC m (some ⟨lb0, lo0, none⟩) c) (rqC r FA fc TA tc)) W) => (⟨(X3_facts hE.low h).1.1, (X3_facts hE.low h).1.2⟩ : (W.cell? ⟨w.heap.size, 0, none⟩ = some (.int .i64 m.kind) ∧ W.cell? ⟨w.heap.size, 1, none⟩ = some (.string m.name) ∧ W.cell? ⟨w.heap.size, 2, none⟩ = some (.string m.value) ∧ W.cell? ⟨w.heap.size, 3, none⟩ = some (.slice (some ⟨lb0, lo0, none⟩) m.list.length c) ∧ W.cell? ⟨w.heap.size, 4, none⟩ = some (.int .i64 m.n)) ∧ (W.cell? ⟨w.heap.size + 1, 0, none⟩ = some (.string r.method) ∧ W.cell? ⟨w.heap.size + 1, 1, none⟩ = some (.string r.target) ∧ W.cell? ⟨w.heap.size + 1, 2, none⟩ = some (.int .i64 r.major) ∧ W.cell? ⟨w.heap.size + 1, 3, none⟩ = some (.int .i64 r.minor) ∧ W.cell? ⟨w.heap.size + 1, 4, none⟩ = some (.slice FA r.fields.length fc) ∧ W.cell? ⟨w.heap.size + 1, 5, none⟩ = some (.string r.body) ∧ W.cell? ⟨w.heap.size + 1, 6, none⟩ = some (.slice TA r.trailers.length tc))))
 obtain ⟨hai, hbe⟩ := orig_allow hkd hfr (flight_no hq)
 have HAI := Lib.hid hai
 have HBE := Lib.hid hbe
 have HOV := Lib.hid (fromP_size hr hfr)
 have hfs : ∃ s, onlyP r.fields originN = some s ∧ ((firstStar m = true ∧ ov = ⟨#[42]⟩) ∨ (firstStar m = false ∧ isIn m.list s = true ∧ ov = s)) := by
  cases hon : onlyP r.fields originN with
  | none => rw [from_none hon] at hfr; cases hfr
  | some s =>
   rw [from_some hon] at hfr
   cases h1 : firstStar m
   ·cases h2 : isIn m.list s
    ·rw [h1, h2] at hfr; cases hfr
    ·rw [h1, h2] at hfr; injection hfr with hfr; exact ⟨s, rfl, .inr ⟨rfl, h2, hfr.symm⟩⟩
   ·rw [h1] at hfr; injection hfr with hfr; exact ⟨s, rfl, .inl ⟨rfl, hfr.symm⟩⟩
 have hq2 : (r.method.toList == [79, 80, 84, 73, 79, 78, 83]) = false ∨ ((r.method.toList == [79, 80, 84, 73, 79, 78, 83]) = true ∧ onlyP r.fields acrmN = none) := by
  have e := lit_eq r.method optsT
  rw [show optsT.data.toList = [79, 80, 84, 73, 79, 78, 83] from rfl] at e
  by_cases h : r.method = optsT
  ·exact .inr ⟨by rw [e]; exact decide_eq_true h, hq.elim id (fun g => absurd h g)⟩
  ·exact .inl (by rw [e]; exact decide_eq_false h)
 clear hai hbe hfr hq
 have hi0 : (0 : Int) < (m.list.length : Int) := by omega
 have hX0 := Below.refl (X3 w (midC m (some ⟨lb0, lo0, none⟩) c) (rqC r FA fc TA tc)).heap.size (X3 w (midC m (some ⟨lb0, lo0, none⟩) c) (rqC r FA fc TA tc))
 have hWx : Below w.heap.size w (X3 w (midC m (some ⟨lb0, lo0, none⟩) c) (rqC r FA fc TA tc)) := X3_below w _ _
 clear hc hE hP hn0 hN8 hN hA hcap hF hT hm hr hkd h0l
 generalize varyP m = vp at *
 unfold midV rqV at *
 obtain ⟨s, hon, hfs⟩ := hfs
 have HO1 := Lib.hid (fun W h => HON.out originN originN_size W h)
 rw [hon] at HO1
 unfold onlyVal originN at HO1
 have HO2 := Lib.hid (fun W h => HON.out acrmN acrmN_size W h)
 have HCS := Lib.hid (fun W h => HCT.out s W h)
 clear hon HON HCT
 have HLB := Lib.hid hlb
 rcases hq2 with hm | ⟨hm, hq3⟩
 ·generalize onlyP r.fields acrmN = oo at *
  unfold onlyVal acrmN at HO2
  rcases hfs with ⟨h1, rfl⟩ | ⟨h1, h2, rfl⟩
  ·rw [h1] at hst
   clear h1 HCS
   go_enter Tryz.func71, Tryz.ntmps71
   go_wp2_with fail
   refine (HO1.out _ hWx).mono ?_
   rintro e w1 ⟨rfl, hb1⟩
   have hb1 : Below (X3 w (midC m (some ⟨lb0, lo0, none⟩) c) (rqC r FA fc TA tc)).heap.size (X3 w (midC m (some ⟨lb0, lo0, none⟩) c) (rqC r FA fc TA tc)) w1 := hb1
   have hlb := Nat.lt_of_lt_of_le hlb (X3_up hb1).size
   obtain ⟨⟨⟨m0, m1, m2, m3, m4⟩, a0, a1, a2, a3, a4, a5, a6⟩, ⟨r0, r1, r2, r3⟩, f0, f1, f2, f3⟩ := X3_facts HL.out (Keep.of (D := D) hb1)
   have hz2 := X3_lt hb1
   have hz1 := Nat.lt_of_succ_lt hz2
   have hz0 := Nat.lt_of_succ_lt hz1
   have hlc1 := HFB.out _ (X3_up hb1)
   have hb2 := hb1.alloc hb1.size (.cells #[.string ⟨#[65, 99, 99, 101, 115, 115, 45, 67, 111, 110, 116, 114, 111, 108, 45, 65, 108, 108, 111, 119, 45, 79, 114, 105, 103, 105, 110]⟩, .string ⟨#[42]⟩] 59)
   go_wp2_with fail
   refine (HO2.out _ (X3_up hb2)).mono ?_
   rintro e w3 ⟨rfl, hb3⟩
   have hbx : Below (w1.heap.size + 1) (w1.alloc (.cells #[.string ⟨#[65, 99, 99, 101, 115, 115, 45, 67, 111, 110, 116, 114, 111, 108, 45, 65, 108, 108, 111, 119, 45, 79, 114, 105, 103, 105, 110]⟩, .string ⟨#[42]⟩] 59)) w3 := by simpa using hb3
   have hb4 := hb2.trans (hb3.mono hb2.size)
   obtain ⟨c0, c1⟩ := cell2 hbx
   have hzx : w1.heap.size < w3.heap.size := box_size hbx
   have HB9 := Lib.hid (fun (W : World) (h : Keep D w3 W) => (⟨(h.cell (p := ⟨w1.heap.size, 0, none⟩) hzx (fun hd => by have h : w1.heap.size < w.heap.size := HL.out _ hd; omega)).trans c0, (h.cell (p := ⟨w1.heap.size, 1, none⟩) hzx (fun hd => by have h : w1.heap.size < w.heap.size := HL.out _ hd; omega)).trans c1⟩ : W.cell? ⟨w1.heap.size, 0, none⟩ = some (.string ⟨#[65, 99, 99, 101, 115, 115, 45, 67, 111, 110, 116, 114, 111, 108, 45, 65, 108, 108, 111, 119, 45, 79, 114, 105, 103, 105, 110]⟩) ∧ W.cell? ⟨w1.heap.size, 1, none⟩ = some (.string ⟨#[42]⟩)))
   clear m0 m1 m2 m3 m4 a0 a1 a2 a3 a4 a5 a6 r0 r1 r2 r3 f0 f1 f2 f3 hz2 hz1 hz0 hlc1 hlb hb3 hbx hb2
   have hlb := Nat.lt_of_lt_of_le (HLB.out) (X3_up hb4).size
   obtain ⟨⟨⟨m0, m1, m2, m3, m4⟩, a0, a1, a2, a3, a4, a5, a6⟩, ⟨r0, r1, r2, r3⟩, f0, f1, f2, f3⟩ := X3_facts HL.out (Keep.of (D := D) hb4)
   have hz2 := X3_lt hb4
   have hz1 := Nat.lt_of_succ_lt hz2
   have hz0 := Nat.lt_of_succ_lt hz1
   have hlc1 := HFB.out _ (X3_up hb4)
   go_wp2_with fail
   have hBd := below_dr hb4
   have hS0 := HSC.out _ (Keep.of hBd)
   refine region_T (t := 9) (S := fun W => ((W.cell? ⟨w.heap.size, 0, none⟩ = some (.int .i64 m.kind) ∧ W.cell? ⟨w.heap.size, 1, none⟩ = some (.string m.name) ∧ W.cell? ⟨w.heap.size, 2, none⟩ = some (.string m.value) ∧ W.cell? ⟨w.heap.size, 3, none⟩ = some (.slice (some ⟨lb0, lo0, none⟩) m.list.length c) ∧ W.cell? ⟨w.heap.size, 4, none⟩ = some (.int .i64 m.n)) ∧ (W.cell? ⟨w.heap.size + 1, 0, none⟩ = some (.string r.method) ∧ W.cell? ⟨w.heap.size + 1, 1, none⟩ = some (.string r.target) ∧ W.cell? ⟨w.heap.size + 1, 2, none⟩ = some (.int .i64 r.major) ∧ W.cell? ⟨w.heap.size + 1, 3, none⟩ = some (.int .i64 r.minor) ∧ W.cell? ⟨w.heap.size + 1, 4, none⟩ = some (.slice FA r.fields.length fc) ∧ W.cell? ⟨w.heap.size + 1, 5, none⟩ = some (.string r.body) ∧ W.cell? ⟨w.heap.size + 1, 6, none⟩ = some (.slice TA r.trailers.length tc))) ∧ W.cell? ⟨w1.heap.size, 0, none⟩ = some (.string ⟨#[65, 99, 99, 101, 115, 115, 45, 67, 111, 110, 116, 114, 111, 108, 45, 65, 108, 108, 111, 119, 45, 79, 114, 105, 103, 105, 110]⟩) ∧ W.cell? ⟨w1.heap.size, 1, none⟩ = some (.string ⟨#[42]⟩)) (by kernel_rfl) ⟨hS0, HB9.out _ (Keep.of (below_dr (Below.refl _ _)))⟩ (fun hHeld => ?_)
   refine' anyT_take (i := 0) (v := _) rfl (by kernel_rfl) (by kernel_rfl) (by kernel_rfl) (by kernel_rfl) (by rfl) (fun _ _ _ h => h) (Or.inl ⟨by rfl, ?h7y⟩) hHeld ?h7r
   case h7y => (intro w hSw; (try dsimp only at hSw); (try simp only [List.getElem_toArray, List.getElem_cons_zero]); go_simp; try (with_reducible rfl))
   (try simp only [List.getElem_toArray, List.getElem_cons_zero, Act.put, List.setIfInBounds_toArray, List.set_cons_zero, List.set_cons_succ])
   refine' anyT_take (i := 1) (v := _) rfl (by kernel_rfl) (by kernel_rfl) (by kernel_rfl) (by kernel_rfl) (by rfl) (fun _ _ _ h => h) (Or.inl ⟨by rfl, ?h8y⟩) hHeld ?h8r
   case h8y => (intro w hSw; (try dsimp only at hSw); obtain ⟨⟨⟨s0, s1, s2, s3, s4⟩, t0, t1, t2, t3, t4, t5, t6⟩, z0, z1⟩ := hSw; (try simp only [List.getElem_toArray, List.getElem_cons_succ, List.getElem_cons_zero]); go_simp; try (with_reducible rfl))
   (try simp only [List.getElem_toArray, List.getElem_cons_succ, List.getElem_cons_zero, Act.put, List.setIfInBounds_toArray, List.set_cons_zero, List.set_cons_succ])
   refine' anyT_take (i := 3) (v := _) rfl (by kernel_rfl) (by kernel_rfl) (by kernel_rfl) (by kernel_rfl) (by rfl) (fun _ _ _ h => h) (Or.inl ⟨by rfl, ?h9y⟩) hHeld ?h9r
   case h9y => (intro w hSw; (try dsimp only at hSw); obtain ⟨⟨⟨s0, s1, s2, s3, s4⟩, t0, t1, t2, t3, t4, t5, t6⟩, z0, z1⟩ := hSw; (try simp only [List.getElem_toArray, List.getElem_cons_succ, List.getElem_cons_zero]); go_simp; try (with_reducible rfl))
   (try simp only [List.getElem_toArray, List.getElem_cons_succ, List.getElem_cons_zero, Act.put, List.setIfInBounds_toArray, List.set_cons_zero, List.set_cons_succ])
   refine' anyT_take (i := 6) (v := _) rfl (by kernel_rfl) (by kernel_rfl) (by kernel_rfl) (by kernel_rfl) (by rfl) (fun _ _ _ h => h) (Or.inl ⟨by rfl, ?h10y⟩) hHeld ?h10r
   case h10y => (intro w hSw; (try dsimp only at hSw); obtain ⟨⟨⟨s0, s1, s2, s3, s4⟩, t0, t1, t2, t3, t4, t5, t6⟩, z0, z1⟩ := hSw; (try simp only [List.getElem_toArray, List.getElem_cons_succ, List.getElem_cons_zero]); go_simp; try (with_reducible rfl))
   (try simp only [List.getElem_toArray, List.getElem_cons_succ, List.getElem_cons_zero, Act.put, List.setIfInBounds_toArray, List.set_cons_zero, List.set_cons_succ])
   have hKc : Keep D (X3 w (midC m (some ⟨lb0, lo0, none⟩) c) (rqC r FA fc TA tc)) (w3).drew := Keep.of hBd
   have hBc := hBd
   clear hS0 hHeld
   have hK3 : Keep D w3 (w3).drew := Keep.of (below_dr (Below.refl _ _))
   refine anyT_ready (rs := [2, 4]) (by kernel_rfl) (by simp) ?_
   refine (AllReadyT.cons rfl (fun K hK => ?_) (AllReadyT.cons rfl (fun K hK => ?_) AllReadyT.nil))
   ·skip
    go_simp
    refine (HC.out _ (X3_up hBc)).mono ?_
    rintro e wq17 ⟨y, A1, c1, rfl, hrow, hfit, hTT, hk⟩
    obtain ⟨ys, yr, yf, yb⟩ := y
    unfold rsV
    dsimp only at hrow hfit ⊢
    have hX1 := X3_up hBc
    have hwl := X3_lt hBc
    have hKc := hKc.trans hk
    have hK3 := hK3.trans hk
    have hn : Below wq17.heap.size wq17 wq17 := Below.refl _ _
    clear hBc
    (try go_wp2_with fail)
    refine hK.out _ _ (.inr ⟨HSC.out _ hKc, HB9.out _ hK3⟩) (fun _ => ?_)
    clear hK K
    (try simp only [List.getElem_toArray, List.getElem_cons_succ, List.getElem_cons_zero, Act.put, List.setIfInBounds_toArray, List.set_cons_zero, List.set_cons_succ])
    refine anyT_ready (rs := [4]) (by kernel_rfl) (by simp) ?_
    refine (AllReadyT.cons rfl (fun K hK => ?_) AllReadyT.nil)
    go_simp
    have hbv : Below (wq17).heap.size (wq17) ((wq17).alloc (.cells #[.string ⟨#[65, 99, 99, 101, 115, 115, 45, 67, 111, 110, 116, 114, 111, 108, 45, 65, 108, 108, 111, 119, 45, 79, 114, 105, 103, 105, 110]⟩, .string ⟨#[42]⟩] 59)) := (Below.refl _ _).alloc (Nat.le_refl _) _
    have hr19 := hrow.below hbv
    have hr20 : RowD D ((wq17).alloc (.cells #[.string ⟨#[65, 99, 99, 101, 115, 115, 45, 67, 111, 110, 116, 114, 111, 108, 45, 65, 108, 108, 111, 119, 45, 79, 114, 105, 103, 105, 110]⟩, .string ⟨#[42]⟩] 59)) (some ⟨(wq17).heap.size, 0, none⟩) (flat [(⟨#[65, 99, 99, 101, 115, 115, 45, 67, 111, 110, 116, 114, 111, 108, 45, 65, 108, 108, 111, 119, 45, 79, 114, 105, 103, 105, 110]⟩, ⟨#[42]⟩)]) := RowD.lit (fun k hd => Nat.lt_of_lt_of_le (HL.out k hd) (Keep.ahead hWx hKc).size)
    have hn := hn.trans (hbv.mono hn.size)
    have hKc : Keep D (X3 w (midC m (some ⟨lb0, lo0, none⟩) c) (rqC r FA fc TA tc)) ((wq17).alloc (.cells #[.string ⟨#[65, 99, 99, 101, 115, 115, 45, 67, 111, 110, 116, 114, 111, 108, 45, 65, 108, 108, 111, 119, 45, 79, 114, 105, 103, 105, 110]⟩, .string ⟨#[42]⟩] 59)) := hKc.step hbv
    have hK3 := hK3.step hbv
    clear hbv
    skip
    refine hK.out _ _ (.inr ⟨HSC.out _ hKc, HB9.out _ hK3⟩) (fun _ => ?_)
    clear hK K
    (try simp only [List.getElem_toArray, List.getElem_cons_succ, List.getElem_cons_zero, Act.put, List.setIfInBounds_toArray, List.set_cons_zero, List.set_cons_succ])
    refine anyT_ready (rs := [5]) (by kernel_rfl) (by simp) ?_
    refine (AllReadyT.cons rfl (fun K hK => ?_) AllReadyT.nil)
    go_simp
    have hLD := fun c d => laid_any ys yr yb A1 (some ⟨(wq17).heap.size, 0, none⟩) c d (yf) ([(⟨#[65, 99, 99, 101, 115, 115, 45, 67, 111, 110, 116, 114, 111, 108, 45, 65, 108, 108, 111, 119, 45, 79, 114, 105, 103, 105, 110]⟩, ⟨#[42]⟩)]) _ hr19.row hr20.row (Nat.le_trans hfit.many (Nat.le_trans HN.out (by decide))) (by simp)
    obtain ⟨l5, hLe⟩ : ∃ x : List Fl, x = (yf) ++ ([(⟨#[65, 99, 99, 101, 115, 115, 45, 67, 111, 110, 116, 114, 111, 108, 45, 65, 108, 108, 111, 119, 45, 79, 114, 105, 103, 105, 110]⟩, ⟨#[42]⟩)]) := ⟨_, rfl⟩
    rw [← hLe] at hLD
    have HLE := Lib.hid hLe
    clear hLe
    go_at_call 93
    refine (hLD _ _).mono ?_
    rintro e wq21 ⟨B5, d5, rfl, hol, hbv⟩
    clear hLD
    have hr22 := hr19.below hbv
    have hr23 := hr20.below hbv
    have hr24 : RowD D wq21 B5 _ := RowD.of_own hol hol (fun k hd => Nat.lt_of_lt_of_le (HL.out k hd) (Keep.ahead hWx hKc).size)
    have hnl := hn.size
    have hn := hn.trans (hbv.mono hn.size)
    have hKc : Keep D (X3 w (midC m (some ⟨lb0, lo0, none⟩) c) (rqC r FA fc TA tc)) wq21 := hKc.step hbv
    have hK3 := hK3.step hbv
    have hbl := hbv
    (try go_wp2_with fail)
    refine hK.out _ _ (.inr ⟨HSC.out _ hKc, HB9.out _ hK3⟩) (fun _ => ?_)
    clear hK K
    (try simp only [List.getElem_toArray, List.getElem_cons_succ, List.getElem_cons_zero, Act.put, List.setIfInBounds_toArray, List.set_cons_zero, List.set_cons_succ])
    refine anyT_ready (rs := [7]) (by kernel_rfl) (by simp) ?_
    refine (AllReadyT.cons rfl (fun K hK => ?_) AllReadyT.nil)
    go_simp
    go_at_call 111
    refine (HVR.out _ (Keep.ahead hWx hKc)).mono ?_
    rintro e wq25 ⟨VA, vc, rfl, hov, hbv⟩
    have hcapv := own_cap hov
    have hr26 := hr22.below hbv
    have hr27 := hr23.below hbv
    have hr28 := hr24.below hbv
    have hr29 : RowD D wq25 VA (flat vp) := RowD.of_own hov hov (fun k hd => Nat.lt_of_lt_of_le (HL.out k hd) (Keep.ahead hWx hKc).size)
    have hn := hn.trans (hbv.mono hn.size)
    have hKc : Keep D (X3 w (midC m (some ⟨lb0, lo0, none⟩) c) (rqC r FA fc TA tc)) wq25 := hKc.step hbv
    have hK3 := hK3.step hbv
    clear hov
    clear hbv
    (try go_wp2_with fail)
    refine hK.out _ _ (.inr ⟨HSC.out _ hKc, HB9.out _ hK3⟩) (fun _ => ?_)
    clear hK K
    (try simp only [List.getElem_toArray, List.getElem_cons_succ, List.getElem_cons_zero, Act.put, List.setIfInBounds_toArray, List.set_cons_zero, List.set_cons_succ])
    refine anyT_ready (rs := [8]) (by kernel_rfl) (by simp) ?_
    refine (AllReadyT.cons rfl (fun K hK => ?_) AllReadyT.nil)
    go_simp
    go_at_call 93
    refine (laid_any ys yr yb B5 _ _ _ _ _ _ hr28.row hr29.row (by rw [HLE.out, List.length_append]; have h1 := hfit.many; have h2 := HN.out; simp only [List.length_cons, List.length_nil]; exact Nat.le_trans (Nat.succ_le_succ (Nat.le_trans h1 h2)) (by decide)) (by have := HVF.out.2; omega)).mono ?_
    rintro e wq30 ⟨B8, d8, rfl, hol, hbv⟩
    have hr31 := hr26.below hbv
    have hr32 := hr27.below hbv
    have hr33 := hr28.below hbv
    have hr34 := hr29.below hbv
    have hr35 : RowD D wq30 B8 _ := RowD.of_own hol hol (fun k hd => Nat.lt_of_lt_of_le (HL.out k hd) (Keep.ahead hWx hKc).size)
    have hnl := hn.size
    have hn := hn.trans (hbv.mono hn.size)
    have hKc : Keep D (X3 w (midC m (some ⟨lb0, lo0, none⟩) c) (rqC r FA fc TA tc)) wq30 := hKc.step hbv
    have hK3 := hK3.step hbv
    have hbl := hbv
    (try go_wp2_with fail)
    refine hK.out _ _ (.inr ⟨HSC.out _ hKc, HB9.out _ hK3⟩) (fun _ => ?_)
    clear hK K
    (try simp only [List.getElem_toArray, List.getElem_cons_succ, List.getElem_cons_zero, Act.put, List.setIfInBounds_toArray, List.set_cons_zero, List.set_cons_succ])
    refine anyT_ready (rs := [9]) (by kernel_rfl) (by simp) ?_
    refine AllReadyT.cons rfl (fun K hK => ?_) AllReadyT.nil
    obtain ⟨_, ⟨r0, r1, r2, r3⟩, f0, f1, f2, f3⟩ := X3_facts HL.out hKc
    have hz2 : w.heap.size + 1 + 1 < wq30.heap.size := by have := keep_size hKc; omega
    have HKZ := Lib.hid (show Keep (Btw w (w3).drew) wq17 wq30 from Keep.of hn)
    have hsb : ((w3).drew).heap.size ≤ (wq25).heap.size := Nat.le_trans hk.size hnl
    have HO := Lib.hid (own_less (b' := ((w3).drew).heap.size) hol hsb)
    have HTT := Lib.hid hTT
    have HK2 := Lib.hid hk
    have HFT := Lib.hid hfit
    have HX1 := Lib.hid hX1
    have HWL := Lib.hid (show w.heap.size + 1 + 1 < ((w3).drew).heap.size from hwl)
    clear hfit hTT hk hKc hn hol hbl hrow hX1 hsb hcapv hnl hwl hK3 hr31 hr32 hr33 hr34 hr35
    go_simp
    refine hK.out _ _ (.inl (by rfl)) (fun _ => ?_)
    clear hK K
    (try simp only [List.getElem_toArray, List.getElem_cons_succ, List.getElem_cons_zero, Act.put, List.setIfInBounds_toArray, List.set_cons_zero, List.set_cons_succ])
    refine anyT_done (by kernel_rfl) ?_ _
    go_wp2
    exact bodyPost_ret (v := rsV ⟨ys, yr, l5 ++ vp, yb⟩ B8 d8) (by simp [results, Tryz.results71, go_sem, rsV, r0, r1, r2, r3]) rfl
     ((fin_own (x := ⟨ys, yr, l5 ++ vp, yb⟩) (F := behindP m r) (M := N + 2) (b := w.heap.size + 1 + 1) HL.out HX1.out (by omega) HWL.out HTT.out HK2.out HKZ.out HO.out (by rw [HBE.out, HLE.out]; rfl) (by have h := fit_append (l := [(acaoN, ⟨#[42]⟩)] ++ vp) HFT.out (by have := HVF.out.2; rw [List.length_append]; simp; omega) (wide_append (wide_cons acaoN_size (Nat.le_trans HOV.out (by unfold maxLen; decide)) wide_nil) HVF.out.1); rw [← List.append_assoc, show yf ++ [(acaoN, ⟨#[42]⟩)] = l5 from HLE.out.symm] at h; exact h) _ _ _ _).imp (Nat.le_refl _) fun _ _ _ h => doT_inl HAI.out h)
   ·skip
    go_simp
    have hbv : Below ((w3).drew).heap.size ((w3).drew) (((w3).drew).alloc (.cells #[.string ⟨#[65, 99, 99, 101, 115, 115, 45, 67, 111, 110, 116, 114, 111, 108, 45, 65, 108, 108, 111, 119, 45, 79, 114, 105, 103, 105, 110]⟩, .string ⟨#[42]⟩] 59)) := (Below.refl _ _).alloc (Nat.le_refl _) _
    have hr37 : RowD D (((w3).drew).alloc (.cells #[.string ⟨#[65, 99, 99, 101, 115, 115, 45, 67, 111, 110, 116, 114, 111, 108, 45, 65, 108, 108, 111, 119, 45, 79, 114, 105, 103, 105, 110]⟩, .string ⟨#[42]⟩] 59)) (some ⟨((w3).drew).heap.size, 0, none⟩) (flat [(⟨#[65, 99, 99, 101, 115, 115, 45, 67, 111, 110, 116, 114, 111, 108, 45, 65, 108, 108, 111, 119, 45, 79, 114, 105, 103, 105, 110]⟩, ⟨#[42]⟩)]) := RowD.lit (fun k hd => Nat.lt_of_lt_of_le (HL.out k hd) (Keep.ahead hWx hKc).size)
    have hBc : Below (X3 w (midC m (some ⟨lb0, lo0, none⟩) c) (rqC r FA fc TA tc)).heap.size (X3 w (midC m (some ⟨lb0, lo0, none⟩) c) (rqC r FA fc TA tc)) (((w3).drew).alloc (.cells #[.string ⟨#[65, 99, 99, 101, 115, 115, 45, 67, 111, 110, 116, 114, 111, 108, 45, 65, 108, 108, 111, 119, 45, 79, 114, 105, 103, 105, 110]⟩, .string ⟨#[42]⟩] 59)) := hBc.trans (hbv.mono hBc.size)
    have hKc : Keep D (X3 w (midC m (some ⟨lb0, lo0, none⟩) c) (rqC r FA fc TA tc)) (((w3).drew).alloc (.cells #[.string ⟨#[65, 99, 99, 101, 115, 115, 45, 67, 111, 110, 116, 114, 111, 108, 45, 65, 108, 108, 111, 119, 45, 79, 114, 105, 103, 105, 110]⟩, .string ⟨#[42]⟩] 59)) := hKc.step hbv
    have hK3 := hK3.step hbv
    clear hbv
    skip
    refine hK.out _ _ (.inr ⟨HSC.out _ hKc, HB9.out _ hK3⟩) (fun _ => ?_)
    clear hK K
    (try simp only [List.getElem_toArray, List.getElem_cons_succ, List.getElem_cons_zero, Act.put, List.setIfInBounds_toArray, List.set_cons_zero, List.set_cons_succ])
    refine anyT_ready (rs := [2]) (by kernel_rfl) (by simp) ?_
    refine (AllReadyT.cons rfl (fun K hK => ?_) AllReadyT.nil)
    go_simp
    refine (HC.out _ (X3_up hBc)).mono ?_
    rintro e wq38 ⟨y, A1, c1, rfl, hrow, hfit, hTT, hk⟩
    obtain ⟨ys, yr, yf, yb⟩ := y
    unfold rsV
    dsimp only at hrow hfit ⊢
    have hr39 := hr37.keep hk
    have hX1 := X3_up hBc
    have hwl := X3_lt hBc
    have hKc := hKc.trans hk
    have hK3 := hK3.trans hk
    have hn : Below wq38.heap.size wq38 wq38 := Below.refl _ _
    clear hBc
    (try go_wp2_with fail)
    refine hK.out _ _ (.inr ⟨HSC.out _ hKc, HB9.out _ hK3⟩) (fun _ => ?_)
    clear hK K
    (try simp only [List.getElem_toArray, List.getElem_cons_succ, List.getElem_cons_zero, Act.put, List.setIfInBounds_toArray, List.set_cons_zero, List.set_cons_succ])
    refine anyT_ready (rs := [5]) (by kernel_rfl) (by simp) ?_
    refine (AllReadyT.cons rfl (fun K hK => ?_) AllReadyT.nil)
    go_simp
    have hLD := fun c d => laid_any ys yr yb A1 (some ⟨((w3).drew).heap.size, 0, none⟩) c d (yf) ([(⟨#[65, 99, 99, 101, 115, 115, 45, 67, 111, 110, 116, 114, 111, 108, 45, 65, 108, 108, 111, 119, 45, 79, 114, 105, 103, 105, 110]⟩, ⟨#[42]⟩)]) _ hrow.row hr39.row (Nat.le_trans hfit.many (Nat.le_trans HN.out (by decide))) (by simp)
    obtain ⟨l5, hLe⟩ : ∃ x : List Fl, x = (yf) ++ ([(⟨#[65, 99, 99, 101, 115, 115, 45, 67, 111, 110, 116, 114, 111, 108, 45, 65, 108, 108, 111, 119, 45, 79, 114, 105, 103, 105, 110]⟩, ⟨#[42]⟩)]) := ⟨_, rfl⟩
    rw [← hLe] at hLD
    have HLE := Lib.hid hLe
    clear hLe
    go_at_call 93
    refine (hLD _ _).mono ?_
    rintro e wq40 ⟨B5, d5, rfl, hol, hbv⟩
    clear hLD
    have hr41 := hr39.below hbv
    have hr42 := hrow.below hbv
    have hr43 : RowD D wq40 B5 _ := RowD.of_own hol hol (fun k hd => Nat.lt_of_lt_of_le (HL.out k hd) (Keep.ahead hWx hKc).size)
    have hnl := hn.size
    have hn := hn.trans (hbv.mono hn.size)
    have hKc : Keep D (X3 w (midC m (some ⟨lb0, lo0, none⟩) c) (rqC r FA fc TA tc)) wq40 := hKc.step hbv
    have hK3 := hK3.step hbv
    have hbl := hbv
    (try go_wp2_with fail)
    refine hK.out _ _ (.inr ⟨HSC.out _ hKc, HB9.out _ hK3⟩) (fun _ => ?_)
    clear hK K
    (try simp only [List.getElem_toArray, List.getElem_cons_succ, List.getElem_cons_zero, Act.put, List.setIfInBounds_toArray, List.set_cons_zero, List.set_cons_succ])
    refine anyT_ready (rs := [7]) (by kernel_rfl) (by simp) ?_
    refine (AllReadyT.cons rfl (fun K hK => ?_) AllReadyT.nil)
    go_simp
    go_at_call 111
    refine (HVR.out _ (Keep.ahead hWx hKc)).mono ?_
    rintro e wq44 ⟨VA, vc, rfl, hov, hbv⟩
    have hcapv := own_cap hov
    have hr45 := hr41.below hbv
    have hr46 := hr42.below hbv
    have hr47 := hr43.below hbv
    have hr48 : RowD D wq44 VA (flat vp) := RowD.of_own hov hov (fun k hd => Nat.lt_of_lt_of_le (HL.out k hd) (Keep.ahead hWx hKc).size)
    have hn := hn.trans (hbv.mono hn.size)
    have hKc : Keep D (X3 w (midC m (some ⟨lb0, lo0, none⟩) c) (rqC r FA fc TA tc)) wq44 := hKc.step hbv
    have hK3 := hK3.step hbv
    clear hov
    clear hbv
    (try go_wp2_with fail)
    refine hK.out _ _ (.inr ⟨HSC.out _ hKc, HB9.out _ hK3⟩) (fun _ => ?_)
    clear hK K
    (try simp only [List.getElem_toArray, List.getElem_cons_succ, List.getElem_cons_zero, Act.put, List.setIfInBounds_toArray, List.set_cons_zero, List.set_cons_succ])
    refine anyT_ready (rs := [8]) (by kernel_rfl) (by simp) ?_
    refine (AllReadyT.cons rfl (fun K hK => ?_) AllReadyT.nil)
    go_simp
    go_at_call 93
    refine (laid_any ys yr yb B5 _ _ _ _ _ _ hr47.row hr48.row (by rw [HLE.out, List.length_append]; have h1 := hfit.many; have h2 := HN.out; simp only [List.length_cons, List.length_nil]; exact Nat.le_trans (Nat.succ_le_succ (Nat.le_trans h1 h2)) (by decide)) (by have := HVF.out.2; omega)).mono ?_
    rintro e wq49 ⟨B8, d8, rfl, hol, hbv⟩
    have hr50 := hr45.below hbv
    have hr51 := hr46.below hbv
    have hr52 := hr47.below hbv
    have hr53 := hr48.below hbv
    have hr54 : RowD D wq49 B8 _ := RowD.of_own hol hol (fun k hd => Nat.lt_of_lt_of_le (HL.out k hd) (Keep.ahead hWx hKc).size)
    have hnl := hn.size
    have hn := hn.trans (hbv.mono hn.size)
    have hKc : Keep D (X3 w (midC m (some ⟨lb0, lo0, none⟩) c) (rqC r FA fc TA tc)) wq49 := hKc.step hbv
    have hK3 := hK3.step hbv
    have hbl := hbv
    (try go_wp2_with fail)
    refine hK.out _ _ (.inr ⟨HSC.out _ hKc, HB9.out _ hK3⟩) (fun _ => ?_)
    clear hK K
    (try simp only [List.getElem_toArray, List.getElem_cons_succ, List.getElem_cons_zero, Act.put, List.setIfInBounds_toArray, List.set_cons_zero, List.set_cons_succ])
    refine anyT_ready (rs := [9]) (by kernel_rfl) (by simp) ?_
    refine AllReadyT.cons rfl (fun K hK => ?_) AllReadyT.nil
    obtain ⟨_, ⟨r0, r1, r2, r3⟩, f0, f1, f2, f3⟩ := X3_facts HL.out hKc
    have hz2 : w.heap.size + 1 + 1 < wq49.heap.size := by have := keep_size hKc; omega
    have HKZ := Lib.hid (show Keep (Btw w (((w3).drew).alloc (.cells #[.string ⟨#[65, 99, 99, 101, 115, 115, 45, 67, 111, 110, 116, 114, 111, 108, 45, 65, 108, 108, 111, 119, 45, 79, 114, 105, 103, 105, 110]⟩, .string ⟨#[42]⟩] 59))) wq38 wq49 from Keep.of hn)
    have hsb : ((((w3).drew).alloc (.cells #[.string ⟨#[65, 99, 99, 101, 115, 115, 45, 67, 111, 110, 116, 114, 111, 108, 45, 65, 108, 108, 111, 119, 45, 79, 114, 105, 103, 105, 110]⟩, .string ⟨#[42]⟩] 59))).heap.size ≤ (wq44).heap.size := Nat.le_trans hk.size hnl
    have HO := Lib.hid (own_less (b' := ((((w3).drew).alloc (.cells #[.string ⟨#[65, 99, 99, 101, 115, 115, 45, 67, 111, 110, 116, 114, 111, 108, 45, 65, 108, 108, 111, 119, 45, 79, 114, 105, 103, 105, 110]⟩, .string ⟨#[42]⟩] 59))).heap.size) hol hsb)
    have HTT := Lib.hid hTT
    have HK2 := Lib.hid hk
    have HFT := Lib.hid hfit
    have HX1 := Lib.hid hX1
    have HWL := Lib.hid (show w.heap.size + 1 + 1 < ((((w3).drew).alloc (.cells #[.string ⟨#[65, 99, 99, 101, 115, 115, 45, 67, 111, 110, 116, 114, 111, 108, 45, 65, 108, 108, 111, 119, 45, 79, 114, 105, 103, 105, 110]⟩, .string ⟨#[42]⟩] 59))).heap.size from hwl)
    clear hfit hTT hk hKc hn hol hbl hrow hX1 hsb hcapv hnl hwl hK3 hr50 hr51 hr52 hr53 hr54
    go_simp
    refine hK.out _ _ (.inl (by rfl)) (fun _ => ?_)
    clear hK K
    (try simp only [List.getElem_toArray, List.getElem_cons_succ, List.getElem_cons_zero, Act.put, List.setIfInBounds_toArray, List.set_cons_zero, List.set_cons_succ])
    refine anyT_done (by kernel_rfl) ?_ _
    go_wp2
    exact bodyPost_ret (v := rsV ⟨ys, yr, l5 ++ vp, yb⟩ B8 d8) (by simp [results, Tryz.results71, go_sem, rsV, r0, r1, r2, r3]) rfl
     ((fin_own (x := ⟨ys, yr, l5 ++ vp, yb⟩) (F := behindP m r) (M := N + 2) (b := w.heap.size + 1 + 1) HL.out HX1.out (by omega) HWL.out HTT.out HK2.out HKZ.out HO.out (by rw [HBE.out, HLE.out]; rfl) (by have h := fit_append (l := [(acaoN, ⟨#[42]⟩)] ++ vp) HFT.out (by have := HVF.out.2; rw [List.length_append]; simp; omega) (wide_append (wide_cons acaoN_size (Nat.le_trans HOV.out (by unfold maxLen; decide)) wide_nil) HVF.out.1); rw [← List.append_assoc, show yf ++ [(acaoN, ⟨#[42]⟩)] = l5 from HLE.out.symm] at h; exact h) _ _ _ _).imp (Nat.le_refl _) fun _ _ _ h => doT_inl HAI.out h)
  ·rw [h1] at hst
   rw [h2] at HCS
   clear h1 h2
   go_enter Tryz.func71, Tryz.ntmps71
   go_wp2_with fail
   refine (HO1.out _ hWx).mono ?_
   rintro e w1 ⟨rfl, hb1⟩
   have hb1 : Below (X3 w (midC m (some ⟨lb0, lo0, none⟩) c) (rqC r FA fc TA tc)).heap.size (X3 w (midC m (some ⟨lb0, lo0, none⟩) c) (rqC r FA fc TA tc)) w1 := hb1
   have hlb := Nat.lt_of_lt_of_le hlb (X3_up hb1).size
   obtain ⟨⟨⟨m0, m1, m2, m3, m4⟩, a0, a1, a2, a3, a4, a5, a6⟩, ⟨r0, r1, r2, r3⟩, f0, f1, f2, f3⟩ := X3_facts HL.out (Keep.of (D := D) hb1)
   have hz2 := X3_lt hb1
   have hz1 := Nat.lt_of_succ_lt hz2
   have hz0 := Nat.lt_of_succ_lt hz1
   have hlc1 := HFB.out _ (X3_up hb1)
   go_wp2_with fail
   refine (HCS.out _ (X3_up hb1)).mono ?_
   rintro e w9 ⟨rfl, rfl⟩
   have hb2 := hb1.alloc hb1.size (.cells #[.string ⟨#[65, 99, 99, 101, 115, 115, 45, 67, 111, 110, 116, 114, 111, 108, 45, 65, 108, 108, 111, 119, 45, 79, 114, 105, 103, 105, 110]⟩, .string ov] 59)
   go_wp2_with fail
   refine (HO2.out _ (X3_up hb2)).mono ?_
   rintro e w3 ⟨rfl, hb3⟩
   have hbx : Below (w1.heap.size + 1) (w1.alloc (.cells #[.string ⟨#[65, 99, 99, 101, 115, 115, 45, 67, 111, 110, 116, 114, 111, 108, 45, 65, 108, 108, 111, 119, 45, 79, 114, 105, 103, 105, 110]⟩, .string ov] 59)) w3 := by simpa using hb3
   have hb4 := hb2.trans (hb3.mono hb2.size)
   obtain ⟨c0, c1⟩ := cell2 hbx
   have hzx : w1.heap.size < w3.heap.size := box_size hbx
   have HB9 := Lib.hid (fun (W : World) (h : Keep D w3 W) => (⟨(h.cell (p := ⟨w1.heap.size, 0, none⟩) hzx (fun hd => by have h : w1.heap.size < w.heap.size := HL.out _ hd; omega)).trans c0, (h.cell (p := ⟨w1.heap.size, 1, none⟩) hzx (fun hd => by have h : w1.heap.size < w.heap.size := HL.out _ hd; omega)).trans c1⟩ : W.cell? ⟨w1.heap.size, 0, none⟩ = some (.string ⟨#[65, 99, 99, 101, 115, 115, 45, 67, 111, 110, 116, 114, 111, 108, 45, 65, 108, 108, 111, 119, 45, 79, 114, 105, 103, 105, 110]⟩) ∧ W.cell? ⟨w1.heap.size, 1, none⟩ = some (.string ov)))
   clear m0 m1 m2 m3 m4 a0 a1 a2 a3 a4 a5 a6 r0 r1 r2 r3 f0 f1 f2 f3 hz2 hz1 hz0 hlc1 hlb hb3 hbx hb2
   have hlb := Nat.lt_of_lt_of_le (HLB.out) (X3_up hb4).size
   obtain ⟨⟨⟨m0, m1, m2, m3, m4⟩, a0, a1, a2, a3, a4, a5, a6⟩, ⟨r0, r1, r2, r3⟩, f0, f1, f2, f3⟩ := X3_facts HL.out (Keep.of (D := D) hb4)
   have hz2 := X3_lt hb4
   have hz1 := Nat.lt_of_succ_lt hz2
   have hz0 := Nat.lt_of_succ_lt hz1
   have hlc1 := HFB.out _ (X3_up hb4)
   go_wp2_with fail
   have hBd := below_dr hb4
   have hS0 := HSC.out _ (Keep.of hBd)
   refine region_T (t := 9) (S := fun W => ((W.cell? ⟨w.heap.size, 0, none⟩ = some (.int .i64 m.kind) ∧ W.cell? ⟨w.heap.size, 1, none⟩ = some (.string m.name) ∧ W.cell? ⟨w.heap.size, 2, none⟩ = some (.string m.value) ∧ W.cell? ⟨w.heap.size, 3, none⟩ = some (.slice (some ⟨lb0, lo0, none⟩) m.list.length c) ∧ W.cell? ⟨w.heap.size, 4, none⟩ = some (.int .i64 m.n)) ∧ (W.cell? ⟨w.heap.size + 1, 0, none⟩ = some (.string r.method) ∧ W.cell? ⟨w.heap.size + 1, 1, none⟩ = some (.string r.target) ∧ W.cell? ⟨w.heap.size + 1, 2, none⟩ = some (.int .i64 r.major) ∧ W.cell? ⟨w.heap.size + 1, 3, none⟩ = some (.int .i64 r.minor) ∧ W.cell? ⟨w.heap.size + 1, 4, none⟩ = some (.slice FA r.fields.length fc) ∧ W.cell? ⟨w.heap.size + 1, 5, none⟩ = some (.string r.body) ∧ W.cell? ⟨w.heap.size + 1, 6, none⟩ = some (.slice TA r.trailers.length tc))) ∧ W.cell? ⟨w1.heap.size, 0, none⟩ = some (.string ⟨#[65, 99, 99, 101, 115, 115, 45, 67, 111, 110, 116, 114, 111, 108, 45, 65, 108, 108, 111, 119, 45, 79, 114, 105, 103, 105, 110]⟩) ∧ W.cell? ⟨w1.heap.size, 1, none⟩ = some (.string ov)) (by kernel_rfl) ⟨hS0, HB9.out _ (Keep.of (below_dr (Below.refl _ _)))⟩ (fun hHeld => ?_)
   refine' anyT_take (i := 0) (v := _) rfl (by kernel_rfl) (by kernel_rfl) (by kernel_rfl) (by kernel_rfl) (by rfl) (fun _ _ _ h => h) (Or.inl ⟨by rfl, ?h11y⟩) hHeld ?h11r
   case h11y => (intro w hSw; (try dsimp only at hSw); (try simp only [List.getElem_toArray, List.getElem_cons_zero]); go_simp; try (with_reducible rfl))
   (try simp only [List.getElem_toArray, List.getElem_cons_zero, Act.put, List.setIfInBounds_toArray, List.set_cons_zero, List.set_cons_succ])
   refine' anyT_take (i := 1) (v := _) rfl (by kernel_rfl) (by kernel_rfl) (by kernel_rfl) (by kernel_rfl) (by rfl) (fun _ _ _ h => h) (Or.inl ⟨by rfl, ?h12y⟩) hHeld ?h12r
   case h12y => (intro w hSw; (try dsimp only at hSw); obtain ⟨⟨⟨s0, s1, s2, s3, s4⟩, t0, t1, t2, t3, t4, t5, t6⟩, z0, z1⟩ := hSw; (try simp only [List.getElem_toArray, List.getElem_cons_succ, List.getElem_cons_zero]); go_simp; try (with_reducible rfl))
   (try simp only [List.getElem_toArray, List.getElem_cons_succ, List.getElem_cons_zero, Act.put, List.setIfInBounds_toArray, List.set_cons_zero, List.set_cons_succ])
   refine' anyT_take (i := 3) (v := _) rfl (by kernel_rfl) (by kernel_rfl) (by kernel_rfl) (by kernel_rfl) (by rfl) (fun _ _ _ h => h) (Or.inl ⟨by rfl, ?h13y⟩) hHeld ?h13r
   case h13y => (intro w hSw; (try dsimp only at hSw); obtain ⟨⟨⟨s0, s1, s2, s3, s4⟩, t0, t1, t2, t3, t4, t5, t6⟩, z0, z1⟩ := hSw; (try simp only [List.getElem_toArray, List.getElem_cons_succ, List.getElem_cons_zero]); go_simp; try (with_reducible rfl))
   (try simp only [List.getElem_toArray, List.getElem_cons_succ, List.getElem_cons_zero, Act.put, List.setIfInBounds_toArray, List.set_cons_zero, List.set_cons_succ])
   refine' anyT_take (i := 6) (v := _) rfl (by kernel_rfl) (by kernel_rfl) (by kernel_rfl) (by kernel_rfl) (by rfl) (fun _ _ _ h => h) (Or.inl ⟨by rfl, ?h14y⟩) hHeld ?h14r
   case h14y => (intro w hSw; (try dsimp only at hSw); obtain ⟨⟨⟨s0, s1, s2, s3, s4⟩, t0, t1, t2, t3, t4, t5, t6⟩, z0, z1⟩ := hSw; (try simp only [List.getElem_toArray, List.getElem_cons_succ, List.getElem_cons_zero]); go_simp; try (with_reducible rfl))
   (try simp only [List.getElem_toArray, List.getElem_cons_succ, List.getElem_cons_zero, Act.put, List.setIfInBounds_toArray, List.set_cons_zero, List.set_cons_succ])
   have hKc : Keep D (X3 w (midC m (some ⟨lb0, lo0, none⟩) c) (rqC r FA fc TA tc)) (w3).drew := Keep.of hBd
   have hBc := hBd
   clear hS0 hHeld
   have hK3 : Keep D w3 (w3).drew := Keep.of (below_dr (Below.refl _ _))
   refine anyT_ready (rs := [2, 4]) (by kernel_rfl) (by simp) ?_
   refine (AllReadyT.cons rfl (fun K hK => ?_) (AllReadyT.cons rfl (fun K hK => ?_) AllReadyT.nil))
   ·skip
    go_simp
    refine (HC.out _ (X3_up hBc)).mono ?_
    rintro e wq55 ⟨y, A1, c1, rfl, hrow, hfit, hTT, hk⟩
    obtain ⟨ys, yr, yf, yb⟩ := y
    unfold rsV
    dsimp only at hrow hfit ⊢
    have hX1 := X3_up hBc
    have hwl := X3_lt hBc
    have hKc := hKc.trans hk
    have hK3 := hK3.trans hk
    have hn : Below wq55.heap.size wq55 wq55 := Below.refl _ _
    clear hBc
    (try go_wp2_with fail)
    refine hK.out _ _ (.inr ⟨HSC.out _ hKc, HB9.out _ hK3⟩) (fun _ => ?_)
    clear hK K
    (try simp only [List.getElem_toArray, List.getElem_cons_succ, List.getElem_cons_zero, Act.put, List.setIfInBounds_toArray, List.set_cons_zero, List.set_cons_succ])
    refine anyT_ready (rs := [4]) (by kernel_rfl) (by simp) ?_
    refine (AllReadyT.cons rfl (fun K hK => ?_) AllReadyT.nil)
    go_simp
    have hbv : Below (wq55).heap.size (wq55) ((wq55).alloc (.cells #[.string ⟨#[65, 99, 99, 101, 115, 115, 45, 67, 111, 110, 116, 114, 111, 108, 45, 65, 108, 108, 111, 119, 45, 79, 114, 105, 103, 105, 110]⟩, .string ov] 59)) := (Below.refl _ _).alloc (Nat.le_refl _) _
    have hr57 := hrow.below hbv
    have hr58 : RowD D ((wq55).alloc (.cells #[.string ⟨#[65, 99, 99, 101, 115, 115, 45, 67, 111, 110, 116, 114, 111, 108, 45, 65, 108, 108, 111, 119, 45, 79, 114, 105, 103, 105, 110]⟩, .string ov] 59)) (some ⟨(wq55).heap.size, 0, none⟩) (flat [(⟨#[65, 99, 99, 101, 115, 115, 45, 67, 111, 110, 116, 114, 111, 108, 45, 65, 108, 108, 111, 119, 45, 79, 114, 105, 103, 105, 110]⟩, ov)]) := RowD.lit (fun k hd => Nat.lt_of_lt_of_le (HL.out k hd) (Keep.ahead hWx hKc).size)
    have hn := hn.trans (hbv.mono hn.size)
    have hKc : Keep D (X3 w (midC m (some ⟨lb0, lo0, none⟩) c) (rqC r FA fc TA tc)) ((wq55).alloc (.cells #[.string ⟨#[65, 99, 99, 101, 115, 115, 45, 67, 111, 110, 116, 114, 111, 108, 45, 65, 108, 108, 111, 119, 45, 79, 114, 105, 103, 105, 110]⟩, .string ov] 59)) := hKc.step hbv
    have hK3 := hK3.step hbv
    clear hbv
    skip
    refine hK.out _ _ (.inr ⟨HSC.out _ hKc, HB9.out _ hK3⟩) (fun _ => ?_)
    clear hK K
    (try simp only [List.getElem_toArray, List.getElem_cons_succ, List.getElem_cons_zero, Act.put, List.setIfInBounds_toArray, List.set_cons_zero, List.set_cons_succ])
    refine anyT_ready (rs := [5]) (by kernel_rfl) (by simp) ?_
    refine (AllReadyT.cons rfl (fun K hK => ?_) AllReadyT.nil)
    go_simp
    have hLD := fun c d => laid_any ys yr yb A1 (some ⟨(wq55).heap.size, 0, none⟩) c d (yf) ([(⟨#[65, 99, 99, 101, 115, 115, 45, 67, 111, 110, 116, 114, 111, 108, 45, 65, 108, 108, 111, 119, 45, 79, 114, 105, 103, 105, 110]⟩, ov)]) _ hr57.row hr58.row (Nat.le_trans hfit.many (Nat.le_trans HN.out (by decide))) (by simp)
    obtain ⟨l5, hLe⟩ : ∃ x : List Fl, x = (yf) ++ ([(⟨#[65, 99, 99, 101, 115, 115, 45, 67, 111, 110, 116, 114, 111, 108, 45, 65, 108, 108, 111, 119, 45, 79, 114, 105, 103, 105, 110]⟩, ov)]) := ⟨_, rfl⟩
    rw [← hLe] at hLD
    have HLE := Lib.hid hLe
    clear hLe
    go_at_call 93
    refine (hLD _ _).mono ?_
    rintro e wq59 ⟨B5, d5, rfl, hol, hbv⟩
    clear hLD
    have hr60 := hr57.below hbv
    have hr61 := hr58.below hbv
    have hr62 : RowD D wq59 B5 _ := RowD.of_own hol hol (fun k hd => Nat.lt_of_lt_of_le (HL.out k hd) (Keep.ahead hWx hKc).size)
    have hnl := hn.size
    have hn := hn.trans (hbv.mono hn.size)
    have hKc : Keep D (X3 w (midC m (some ⟨lb0, lo0, none⟩) c) (rqC r FA fc TA tc)) wq59 := hKc.step hbv
    have hK3 := hK3.step hbv
    have hbl := hbv
    (try go_wp2_with fail)
    refine hK.out _ _ (.inr ⟨HSC.out _ hKc, HB9.out _ hK3⟩) (fun _ => ?_)
    clear hK K
    (try simp only [List.getElem_toArray, List.getElem_cons_succ, List.getElem_cons_zero, Act.put, List.setIfInBounds_toArray, List.set_cons_zero, List.set_cons_succ])
    refine anyT_ready (rs := [7]) (by kernel_rfl) (by simp) ?_
    refine (AllReadyT.cons rfl (fun K hK => ?_) AllReadyT.nil)
    go_simp
    go_at_call 111
    refine (HVR.out _ (Keep.ahead hWx hKc)).mono ?_
    rintro e wq63 ⟨VA, vc, rfl, hov, hbv⟩
    have hcapv := own_cap hov
    have hr64 := hr60.below hbv
    have hr65 := hr61.below hbv
    have hr66 := hr62.below hbv
    have hr67 : RowD D wq63 VA (flat vp) := RowD.of_own hov hov (fun k hd => Nat.lt_of_lt_of_le (HL.out k hd) (Keep.ahead hWx hKc).size)
    have hn := hn.trans (hbv.mono hn.size)
    have hKc : Keep D (X3 w (midC m (some ⟨lb0, lo0, none⟩) c) (rqC r FA fc TA tc)) wq63 := hKc.step hbv
    have hK3 := hK3.step hbv
    clear hov
    clear hbv
    (try go_wp2_with fail)
    refine hK.out _ _ (.inr ⟨HSC.out _ hKc, HB9.out _ hK3⟩) (fun _ => ?_)
    clear hK K
    (try simp only [List.getElem_toArray, List.getElem_cons_succ, List.getElem_cons_zero, Act.put, List.setIfInBounds_toArray, List.set_cons_zero, List.set_cons_succ])
    refine anyT_ready (rs := [8]) (by kernel_rfl) (by simp) ?_
    refine (AllReadyT.cons rfl (fun K hK => ?_) AllReadyT.nil)
    go_simp
    go_at_call 93
    refine (laid_any ys yr yb B5 _ _ _ _ _ _ hr66.row hr67.row (by rw [HLE.out, List.length_append]; have h1 := hfit.many; have h2 := HN.out; simp only [List.length_cons, List.length_nil]; exact Nat.le_trans (Nat.succ_le_succ (Nat.le_trans h1 h2)) (by decide)) (by have := HVF.out.2; omega)).mono ?_
    rintro e wq68 ⟨B8, d8, rfl, hol, hbv⟩
    have hr69 := hr64.below hbv
    have hr70 := hr65.below hbv
    have hr71 := hr66.below hbv
    have hr72 := hr67.below hbv
    have hr73 : RowD D wq68 B8 _ := RowD.of_own hol hol (fun k hd => Nat.lt_of_lt_of_le (HL.out k hd) (Keep.ahead hWx hKc).size)
    have hnl := hn.size
    have hn := hn.trans (hbv.mono hn.size)
    have hKc : Keep D (X3 w (midC m (some ⟨lb0, lo0, none⟩) c) (rqC r FA fc TA tc)) wq68 := hKc.step hbv
    have hK3 := hK3.step hbv
    have hbl := hbv
    (try go_wp2_with fail)
    refine hK.out _ _ (.inr ⟨HSC.out _ hKc, HB9.out _ hK3⟩) (fun _ => ?_)
    clear hK K
    (try simp only [List.getElem_toArray, List.getElem_cons_succ, List.getElem_cons_zero, Act.put, List.setIfInBounds_toArray, List.set_cons_zero, List.set_cons_succ])
    refine anyT_ready (rs := [9]) (by kernel_rfl) (by simp) ?_
    refine AllReadyT.cons rfl (fun K hK => ?_) AllReadyT.nil
    obtain ⟨_, ⟨r0, r1, r2, r3⟩, f0, f1, f2, f3⟩ := X3_facts HL.out hKc
    have hz2 : w.heap.size + 1 + 1 < wq68.heap.size := by have := keep_size hKc; omega
    have HKZ := Lib.hid (show Keep (Btw w (w3).drew) wq55 wq68 from Keep.of hn)
    have hsb : ((w3).drew).heap.size ≤ (wq63).heap.size := Nat.le_trans hk.size hnl
    have HO := Lib.hid (own_less (b' := ((w3).drew).heap.size) hol hsb)
    have HTT := Lib.hid hTT
    have HK2 := Lib.hid hk
    have HFT := Lib.hid hfit
    have HX1 := Lib.hid hX1
    have HWL := Lib.hid (show w.heap.size + 1 + 1 < ((w3).drew).heap.size from hwl)
    clear hfit hTT hk hKc hn hol hbl hrow hX1 hsb hcapv hnl hwl hK3 hr69 hr70 hr71 hr72 hr73
    go_simp
    refine hK.out _ _ (.inl (by rfl)) (fun _ => ?_)
    clear hK K
    (try simp only [List.getElem_toArray, List.getElem_cons_succ, List.getElem_cons_zero, Act.put, List.setIfInBounds_toArray, List.set_cons_zero, List.set_cons_succ])
    refine anyT_done (by kernel_rfl) ?_ _
    go_wp2
    exact bodyPost_ret (v := rsV ⟨ys, yr, l5 ++ vp, yb⟩ B8 d8) (by simp [results, Tryz.results71, go_sem, rsV, r0, r1, r2, r3]) rfl
     ((fin_own (x := ⟨ys, yr, l5 ++ vp, yb⟩) (F := behindP m r) (M := N + 2) (b := w.heap.size + 1 + 1) HL.out HX1.out (by omega) HWL.out HTT.out HK2.out HKZ.out HO.out (by rw [HBE.out, HLE.out]; rfl) (by have h := fit_append (l := [(acaoN, ov)] ++ vp) HFT.out (by have := HVF.out.2; rw [List.length_append]; simp; omega) (wide_append (wide_cons acaoN_size (Nat.le_trans HOV.out (by unfold maxLen; decide)) wide_nil) HVF.out.1); rw [← List.append_assoc, show yf ++ [(acaoN, ov)] = l5 from HLE.out.symm] at h; exact h) _ _ _ _).imp (Nat.le_refl _) fun _ _ _ h => doT_inl HAI.out h)
   ·skip
    go_simp
    have hbv : Below ((w3).drew).heap.size ((w3).drew) (((w3).drew).alloc (.cells #[.string ⟨#[65, 99, 99, 101, 115, 115, 45, 67, 111, 110, 116, 114, 111, 108, 45, 65, 108, 108, 111, 119, 45, 79, 114, 105, 103, 105, 110]⟩, .string ov] 59)) := (Below.refl _ _).alloc (Nat.le_refl _) _
    have hr75 : RowD D (((w3).drew).alloc (.cells #[.string ⟨#[65, 99, 99, 101, 115, 115, 45, 67, 111, 110, 116, 114, 111, 108, 45, 65, 108, 108, 111, 119, 45, 79, 114, 105, 103, 105, 110]⟩, .string ov] 59)) (some ⟨((w3).drew).heap.size, 0, none⟩) (flat [(⟨#[65, 99, 99, 101, 115, 115, 45, 67, 111, 110, 116, 114, 111, 108, 45, 65, 108, 108, 111, 119, 45, 79, 114, 105, 103, 105, 110]⟩, ov)]) := RowD.lit (fun k hd => Nat.lt_of_lt_of_le (HL.out k hd) (Keep.ahead hWx hKc).size)
    have hBc : Below (X3 w (midC m (some ⟨lb0, lo0, none⟩) c) (rqC r FA fc TA tc)).heap.size (X3 w (midC m (some ⟨lb0, lo0, none⟩) c) (rqC r FA fc TA tc)) (((w3).drew).alloc (.cells #[.string ⟨#[65, 99, 99, 101, 115, 115, 45, 67, 111, 110, 116, 114, 111, 108, 45, 65, 108, 108, 111, 119, 45, 79, 114, 105, 103, 105, 110]⟩, .string ov] 59)) := hBc.trans (hbv.mono hBc.size)
    have hKc : Keep D (X3 w (midC m (some ⟨lb0, lo0, none⟩) c) (rqC r FA fc TA tc)) (((w3).drew).alloc (.cells #[.string ⟨#[65, 99, 99, 101, 115, 115, 45, 67, 111, 110, 116, 114, 111, 108, 45, 65, 108, 108, 111, 119, 45, 79, 114, 105, 103, 105, 110]⟩, .string ov] 59)) := hKc.step hbv
    have hK3 := hK3.step hbv
    clear hbv
    skip
    refine hK.out _ _ (.inr ⟨HSC.out _ hKc, HB9.out _ hK3⟩) (fun _ => ?_)
    clear hK K
    (try simp only [List.getElem_toArray, List.getElem_cons_succ, List.getElem_cons_zero, Act.put, List.setIfInBounds_toArray, List.set_cons_zero, List.set_cons_succ])
    refine anyT_ready (rs := [2]) (by kernel_rfl) (by simp) ?_
    refine (AllReadyT.cons rfl (fun K hK => ?_) AllReadyT.nil)
    go_simp
    refine (HC.out _ (X3_up hBc)).mono ?_
    rintro e wq76 ⟨y, A1, c1, rfl, hrow, hfit, hTT, hk⟩
    obtain ⟨ys, yr, yf, yb⟩ := y
    unfold rsV
    dsimp only at hrow hfit ⊢
    have hr77 := hr75.keep hk
    have hX1 := X3_up hBc
    have hwl := X3_lt hBc
    have hKc := hKc.trans hk
    have hK3 := hK3.trans hk
    have hn : Below wq76.heap.size wq76 wq76 := Below.refl _ _
    clear hBc
    (try go_wp2_with fail)
    refine hK.out _ _ (.inr ⟨HSC.out _ hKc, HB9.out _ hK3⟩) (fun _ => ?_)
    clear hK K
    (try simp only [List.getElem_toArray, List.getElem_cons_succ, List.getElem_cons_zero, Act.put, List.setIfInBounds_toArray, List.set_cons_zero, List.set_cons_succ])
    refine anyT_ready (rs := [5]) (by kernel_rfl) (by simp) ?_
    refine (AllReadyT.cons rfl (fun K hK => ?_) AllReadyT.nil)
    go_simp
    have hLD := fun c d => laid_any ys yr yb A1 (some ⟨((w3).drew).heap.size, 0, none⟩) c d (yf) ([(⟨#[65, 99, 99, 101, 115, 115, 45, 67, 111, 110, 116, 114, 111, 108, 45, 65, 108, 108, 111, 119, 45, 79, 114, 105, 103, 105, 110]⟩, ov)]) _ hrow.row hr77.row (Nat.le_trans hfit.many (Nat.le_trans HN.out (by decide))) (by simp)
    obtain ⟨l5, hLe⟩ : ∃ x : List Fl, x = (yf) ++ ([(⟨#[65, 99, 99, 101, 115, 115, 45, 67, 111, 110, 116, 114, 111, 108, 45, 65, 108, 108, 111, 119, 45, 79, 114, 105, 103, 105, 110]⟩, ov)]) := ⟨_, rfl⟩
    rw [← hLe] at hLD
    have HLE := Lib.hid hLe
    clear hLe
    go_at_call 93
    refine (hLD _ _).mono ?_
    rintro e wq78 ⟨B5, d5, rfl, hol, hbv⟩
    clear hLD
    have hr79 := hr77.below hbv
    have hr80 := hrow.below hbv
    have hr81 : RowD D wq78 B5 _ := RowD.of_own hol hol (fun k hd => Nat.lt_of_lt_of_le (HL.out k hd) (Keep.ahead hWx hKc).size)
    have hnl := hn.size
    have hn := hn.trans (hbv.mono hn.size)
    have hKc : Keep D (X3 w (midC m (some ⟨lb0, lo0, none⟩) c) (rqC r FA fc TA tc)) wq78 := hKc.step hbv
    have hK3 := hK3.step hbv
    have hbl := hbv
    (try go_wp2_with fail)
    refine hK.out _ _ (.inr ⟨HSC.out _ hKc, HB9.out _ hK3⟩) (fun _ => ?_)
    clear hK K
    (try simp only [List.getElem_toArray, List.getElem_cons_succ, List.getElem_cons_zero, Act.put, List.setIfInBounds_toArray, List.set_cons_zero, List.set_cons_succ])
    refine anyT_ready (rs := [7]) (by kernel_rfl) (by simp) ?_
    refine (AllReadyT.cons rfl (fun K hK => ?_) AllReadyT.nil)
    go_simp
    go_at_call 111
    refine (HVR.out _ (Keep.ahead hWx hKc)).mono ?_
    rintro e wq82 ⟨VA, vc, rfl, hov, hbv⟩
    have hcapv := own_cap hov
    have hr83 := hr79.below hbv
    have hr84 := hr80.below hbv
    have hr85 := hr81.below hbv
    have hr86 : RowD D wq82 VA (flat vp) := RowD.of_own hov hov (fun k hd => Nat.lt_of_lt_of_le (HL.out k hd) (Keep.ahead hWx hKc).size)
    have hn := hn.trans (hbv.mono hn.size)
    have hKc : Keep D (X3 w (midC m (some ⟨lb0, lo0, none⟩) c) (rqC r FA fc TA tc)) wq82 := hKc.step hbv
    have hK3 := hK3.step hbv
    clear hov
    clear hbv
    (try go_wp2_with fail)
    refine hK.out _ _ (.inr ⟨HSC.out _ hKc, HB9.out _ hK3⟩) (fun _ => ?_)
    clear hK K
    (try simp only [List.getElem_toArray, List.getElem_cons_succ, List.getElem_cons_zero, Act.put, List.setIfInBounds_toArray, List.set_cons_zero, List.set_cons_succ])
    refine anyT_ready (rs := [8]) (by kernel_rfl) (by simp) ?_
    refine (AllReadyT.cons rfl (fun K hK => ?_) AllReadyT.nil)
    go_simp
    go_at_call 93
    refine (laid_any ys yr yb B5 _ _ _ _ _ _ hr85.row hr86.row (by rw [HLE.out, List.length_append]; have h1 := hfit.many; have h2 := HN.out; simp only [List.length_cons, List.length_nil]; exact Nat.le_trans (Nat.succ_le_succ (Nat.le_trans h1 h2)) (by decide)) (by have := HVF.out.2; omega)).mono ?_
    rintro e wq87 ⟨B8, d8, rfl, hol, hbv⟩
    have hr88 := hr83.below hbv
    have hr89 := hr84.below hbv
    have hr90 := hr85.below hbv
    have hr91 := hr86.below hbv
    have hr92 : RowD D wq87 B8 _ := RowD.of_own hol hol (fun k hd => Nat.lt_of_lt_of_le (HL.out k hd) (Keep.ahead hWx hKc).size)
    have hnl := hn.size
    have hn := hn.trans (hbv.mono hn.size)
    have hKc : Keep D (X3 w (midC m (some ⟨lb0, lo0, none⟩) c) (rqC r FA fc TA tc)) wq87 := hKc.step hbv
    have hK3 := hK3.step hbv
    have hbl := hbv
    (try go_wp2_with fail)
    refine hK.out _ _ (.inr ⟨HSC.out _ hKc, HB9.out _ hK3⟩) (fun _ => ?_)
    clear hK K
    (try simp only [List.getElem_toArray, List.getElem_cons_succ, List.getElem_cons_zero, Act.put, List.setIfInBounds_toArray, List.set_cons_zero, List.set_cons_succ])
    refine anyT_ready (rs := [9]) (by kernel_rfl) (by simp) ?_
    refine AllReadyT.cons rfl (fun K hK => ?_) AllReadyT.nil
    obtain ⟨_, ⟨r0, r1, r2, r3⟩, f0, f1, f2, f3⟩ := X3_facts HL.out hKc
    have hz2 : w.heap.size + 1 + 1 < wq87.heap.size := by have := keep_size hKc; omega
    have HKZ := Lib.hid (show Keep (Btw w (((w3).drew).alloc (.cells #[.string ⟨#[65, 99, 99, 101, 115, 115, 45, 67, 111, 110, 116, 114, 111, 108, 45, 65, 108, 108, 111, 119, 45, 79, 114, 105, 103, 105, 110]⟩, .string ov] 59))) wq76 wq87 from Keep.of hn)
    have hsb : ((((w3).drew).alloc (.cells #[.string ⟨#[65, 99, 99, 101, 115, 115, 45, 67, 111, 110, 116, 114, 111, 108, 45, 65, 108, 108, 111, 119, 45, 79, 114, 105, 103, 105, 110]⟩, .string ov] 59))).heap.size ≤ (wq82).heap.size := Nat.le_trans hk.size hnl
    have HO := Lib.hid (own_less (b' := ((((w3).drew).alloc (.cells #[.string ⟨#[65, 99, 99, 101, 115, 115, 45, 67, 111, 110, 116, 114, 111, 108, 45, 65, 108, 108, 111, 119, 45, 79, 114, 105, 103, 105, 110]⟩, .string ov] 59))).heap.size) hol hsb)
    have HTT := Lib.hid hTT
    have HK2 := Lib.hid hk
    have HFT := Lib.hid hfit
    have HX1 := Lib.hid hX1
    have HWL := Lib.hid (show w.heap.size + 1 + 1 < ((((w3).drew).alloc (.cells #[.string ⟨#[65, 99, 99, 101, 115, 115, 45, 67, 111, 110, 116, 114, 111, 108, 45, 65, 108, 108, 111, 119, 45, 79, 114, 105, 103, 105, 110]⟩, .string ov] 59))).heap.size from hwl)
    clear hfit hTT hk hKc hn hol hbl hrow hX1 hsb hcapv hnl hwl hK3 hr88 hr89 hr90 hr91 hr92
    go_simp
    refine hK.out _ _ (.inl (by rfl)) (fun _ => ?_)
    clear hK K
    (try simp only [List.getElem_toArray, List.getElem_cons_succ, List.getElem_cons_zero, Act.put, List.setIfInBounds_toArray, List.set_cons_zero, List.set_cons_succ])
    refine anyT_done (by kernel_rfl) ?_ _
    go_wp2
    exact bodyPost_ret (v := rsV ⟨ys, yr, l5 ++ vp, yb⟩ B8 d8) (by simp [results, Tryz.results71, go_sem, rsV, r0, r1, r2, r3]) rfl
     ((fin_own (x := ⟨ys, yr, l5 ++ vp, yb⟩) (F := behindP m r) (M := N + 2) (b := w.heap.size + 1 + 1) HL.out HX1.out (by omega) HWL.out HTT.out HK2.out HKZ.out HO.out (by rw [HBE.out, HLE.out]; rfl) (by have h := fit_append (l := [(acaoN, ov)] ++ vp) HFT.out (by have := HVF.out.2; rw [List.length_append]; simp; omega) (wide_append (wide_cons acaoN_size (Nat.le_trans HOV.out (by unfold maxLen; decide)) wide_nil) HVF.out.1); rw [← List.append_assoc, show yf ++ [(acaoN, ov)] = l5 from HLE.out.symm] at h; exact h) _ _ _ _).imp (Nat.le_refl _) fun _ _ _ h => doT_inl HAI.out h)
 ·rw [hq3] at HO2
  unfold onlyVal acrmN at HO2
  clear hq3
  rcases hfs with ⟨h1, rfl⟩ | ⟨h1, h2, rfl⟩
  ·rw [h1] at hst
   clear h1 HCS
   go_enter Tryz.func71, Tryz.ntmps71
   go_wp2_with fail
   refine (HO1.out _ hWx).mono ?_
   rintro e w1 ⟨rfl, hb1⟩
   have hb1 : Below (X3 w (midC m (some ⟨lb0, lo0, none⟩) c) (rqC r FA fc TA tc)).heap.size (X3 w (midC m (some ⟨lb0, lo0, none⟩) c) (rqC r FA fc TA tc)) w1 := hb1
   have hlb := Nat.lt_of_lt_of_le hlb (X3_up hb1).size
   obtain ⟨⟨⟨m0, m1, m2, m3, m4⟩, a0, a1, a2, a3, a4, a5, a6⟩, ⟨r0, r1, r2, r3⟩, f0, f1, f2, f3⟩ := X3_facts HL.out (Keep.of (D := D) hb1)
   have hz2 := X3_lt hb1
   have hz1 := Nat.lt_of_succ_lt hz2
   have hz0 := Nat.lt_of_succ_lt hz1
   have hlc1 := HFB.out _ (X3_up hb1)
   have hb2 := hb1.alloc hb1.size (.cells #[.string ⟨#[65, 99, 99, 101, 115, 115, 45, 67, 111, 110, 116, 114, 111, 108, 45, 65, 108, 108, 111, 119, 45, 79, 114, 105, 103, 105, 110]⟩, .string ⟨#[42]⟩] 59)
   go_wp2_with fail
   refine (HO2.out _ (X3_up hb2)).mono ?_
   rintro e w3 ⟨rfl, hb3⟩
   have hbx : Below (w1.heap.size + 1) (w1.alloc (.cells #[.string ⟨#[65, 99, 99, 101, 115, 115, 45, 67, 111, 110, 116, 114, 111, 108, 45, 65, 108, 108, 111, 119, 45, 79, 114, 105, 103, 105, 110]⟩, .string ⟨#[42]⟩] 59)) w3 := by simpa using hb3
   have hb4 := hb2.trans (hb3.mono hb2.size)
   obtain ⟨c0, c1⟩ := cell2 hbx
   have hzx : w1.heap.size < w3.heap.size := box_size hbx
   have HB9 := Lib.hid (fun (W : World) (h : Keep D w3 W) => (⟨(h.cell (p := ⟨w1.heap.size, 0, none⟩) hzx (fun hd => by have h : w1.heap.size < w.heap.size := HL.out _ hd; omega)).trans c0, (h.cell (p := ⟨w1.heap.size, 1, none⟩) hzx (fun hd => by have h : w1.heap.size < w.heap.size := HL.out _ hd; omega)).trans c1⟩ : W.cell? ⟨w1.heap.size, 0, none⟩ = some (.string ⟨#[65, 99, 99, 101, 115, 115, 45, 67, 111, 110, 116, 114, 111, 108, 45, 65, 108, 108, 111, 119, 45, 79, 114, 105, 103, 105, 110]⟩) ∧ W.cell? ⟨w1.heap.size, 1, none⟩ = some (.string ⟨#[42]⟩)))
   clear m0 m1 m2 m3 m4 a0 a1 a2 a3 a4 a5 a6 r0 r1 r2 r3 f0 f1 f2 f3 hz2 hz1 hz0 hlc1 hlb hb3 hbx hb2
   have hlb := Nat.lt_of_lt_of_le (HLB.out) (X3_up hb4).size
   obtain ⟨⟨⟨m0, m1, m2, m3, m4⟩, a0, a1, a2, a3, a4, a5, a6⟩, ⟨r0, r1, r2, r3⟩, f0, f1, f2, f3⟩ := X3_facts HL.out (Keep.of (D := D) hb4)
   have hz2 := X3_lt hb4
   have hz1 := Nat.lt_of_succ_lt hz2
   have hz0 := Nat.lt_of_succ_lt hz1
   have hlc1 := HFB.out _ (X3_up hb4)
   go_wp2_with fail
   have hBd := below_dr hb4
   have hS0 := HSC.out _ (Keep.of hBd)
   refine region_T (t := 9) (S := fun W => ((W.cell? ⟨w.heap.size, 0, none⟩ = some (.int .i64 m.kind) ∧ W.cell? ⟨w.heap.size, 1, none⟩ = some (.string m.name) ∧ W.cell? ⟨w.heap.size, 2, none⟩ = some (.string m.value) ∧ W.cell? ⟨w.heap.size, 3, none⟩ = some (.slice (some ⟨lb0, lo0, none⟩) m.list.length c) ∧ W.cell? ⟨w.heap.size, 4, none⟩ = some (.int .i64 m.n)) ∧ (W.cell? ⟨w.heap.size + 1, 0, none⟩ = some (.string r.method) ∧ W.cell? ⟨w.heap.size + 1, 1, none⟩ = some (.string r.target) ∧ W.cell? ⟨w.heap.size + 1, 2, none⟩ = some (.int .i64 r.major) ∧ W.cell? ⟨w.heap.size + 1, 3, none⟩ = some (.int .i64 r.minor) ∧ W.cell? ⟨w.heap.size + 1, 4, none⟩ = some (.slice FA r.fields.length fc) ∧ W.cell? ⟨w.heap.size + 1, 5, none⟩ = some (.string r.body) ∧ W.cell? ⟨w.heap.size + 1, 6, none⟩ = some (.slice TA r.trailers.length tc))) ∧ W.cell? ⟨w1.heap.size, 0, none⟩ = some (.string ⟨#[65, 99, 99, 101, 115, 115, 45, 67, 111, 110, 116, 114, 111, 108, 45, 65, 108, 108, 111, 119, 45, 79, 114, 105, 103, 105, 110]⟩) ∧ W.cell? ⟨w1.heap.size, 1, none⟩ = some (.string ⟨#[42]⟩)) (by kernel_rfl) ⟨hS0, HB9.out _ (Keep.of (below_dr (Below.refl _ _)))⟩ (fun hHeld => ?_)
   refine' anyT_take (i := 0) (v := _) rfl (by kernel_rfl) (by kernel_rfl) (by kernel_rfl) (by kernel_rfl) (by rfl) (fun _ _ _ h => h) (Or.inl ⟨by rfl, ?h15y⟩) hHeld ?h15r
   case h15y => (intro w hSw; (try dsimp only at hSw); (try simp only [List.getElem_toArray, List.getElem_cons_zero]); go_simp; try (with_reducible rfl))
   (try simp only [List.getElem_toArray, List.getElem_cons_zero, Act.put, List.setIfInBounds_toArray, List.set_cons_zero, List.set_cons_succ])
   refine' anyT_take (i := 1) (v := _) rfl (by kernel_rfl) (by kernel_rfl) (by kernel_rfl) (by kernel_rfl) (by rfl) (fun _ _ _ h => h) (Or.inl ⟨by rfl, ?h16y⟩) hHeld ?h16r
   case h16y => (intro w hSw; (try dsimp only at hSw); obtain ⟨⟨⟨s0, s1, s2, s3, s4⟩, t0, t1, t2, t3, t4, t5, t6⟩, z0, z1⟩ := hSw; (try simp only [List.getElem_toArray, List.getElem_cons_succ, List.getElem_cons_zero]); go_simp; try (with_reducible rfl))
   (try simp only [List.getElem_toArray, List.getElem_cons_succ, List.getElem_cons_zero, Act.put, List.setIfInBounds_toArray, List.set_cons_zero, List.set_cons_succ])
   refine' anyT_take (i := 3) (v := _) rfl (by kernel_rfl) (by kernel_rfl) (by kernel_rfl) (by kernel_rfl) (by rfl) (fun _ _ _ h => h) (Or.inl ⟨by rfl, ?h17y⟩) hHeld ?h17r
   case h17y => (intro w hSw; (try dsimp only at hSw); obtain ⟨⟨⟨s0, s1, s2, s3, s4⟩, t0, t1, t2, t3, t4, t5, t6⟩, z0, z1⟩ := hSw; (try simp only [List.getElem_toArray, List.getElem_cons_succ, List.getElem_cons_zero]); go_simp; try (with_reducible rfl))
   (try simp only [List.getElem_toArray, List.getElem_cons_succ, List.getElem_cons_zero, Act.put, List.setIfInBounds_toArray, List.set_cons_zero, List.set_cons_succ])
   refine' anyT_take (i := 6) (v := _) rfl (by kernel_rfl) (by kernel_rfl) (by kernel_rfl) (by kernel_rfl) (by rfl) (fun _ _ _ h => h) (Or.inl ⟨by rfl, ?h18y⟩) hHeld ?h18r
   case h18y => (intro w hSw; (try dsimp only at hSw); obtain ⟨⟨⟨s0, s1, s2, s3, s4⟩, t0, t1, t2, t3, t4, t5, t6⟩, z0, z1⟩ := hSw; (try simp only [List.getElem_toArray, List.getElem_cons_succ, List.getElem_cons_zero]); go_simp; try (with_reducible rfl))
   (try simp only [List.getElem_toArray, List.getElem_cons_succ, List.getElem_cons_zero, Act.put, List.setIfInBounds_toArray, List.set_cons_zero, List.set_cons_succ])
   have hKc : Keep D (X3 w (midC m (some ⟨lb0, lo0, none⟩) c) (rqC r FA fc TA tc)) (w3).drew := Keep.of hBd
   have hBc := hBd
   clear hS0 hHeld
   have hK3 : Keep D w3 (w3).drew := Keep.of (below_dr (Below.refl _ _))
   refine anyT_ready (rs := [2, 4]) (by kernel_rfl) (by simp) ?_
   refine (AllReadyT.cons rfl (fun K hK => ?_) (AllReadyT.cons rfl (fun K hK => ?_) AllReadyT.nil))
   ·skip
    go_simp
    refine (HC.out _ (X3_up hBc)).mono ?_
    rintro e wq93 ⟨y, A1, c1, rfl, hrow, hfit, hTT, hk⟩
    obtain ⟨ys, yr, yf, yb⟩ := y
    unfold rsV
    dsimp only at hrow hfit ⊢
    have hX1 := X3_up hBc
    have hwl := X3_lt hBc
    have hKc := hKc.trans hk
    have hK3 := hK3.trans hk
    have hn : Below wq93.heap.size wq93 wq93 := Below.refl _ _
    clear hBc
    (try go_wp2_with fail)
    refine hK.out _ _ (.inr ⟨HSC.out _ hKc, HB9.out _ hK3⟩) (fun _ => ?_)
    clear hK K
    (try simp only [List.getElem_toArray, List.getElem_cons_succ, List.getElem_cons_zero, Act.put, List.setIfInBounds_toArray, List.set_cons_zero, List.set_cons_succ])
    refine anyT_ready (rs := [4]) (by kernel_rfl) (by simp) ?_
    refine (AllReadyT.cons rfl (fun K hK => ?_) AllReadyT.nil)
    go_simp
    have hbv : Below (wq93).heap.size (wq93) ((wq93).alloc (.cells #[.string ⟨#[65, 99, 99, 101, 115, 115, 45, 67, 111, 110, 116, 114, 111, 108, 45, 65, 108, 108, 111, 119, 45, 79, 114, 105, 103, 105, 110]⟩, .string ⟨#[42]⟩] 59)) := (Below.refl _ _).alloc (Nat.le_refl _) _
    have hr95 := hrow.below hbv
    have hr96 : RowD D ((wq93).alloc (.cells #[.string ⟨#[65, 99, 99, 101, 115, 115, 45, 67, 111, 110, 116, 114, 111, 108, 45, 65, 108, 108, 111, 119, 45, 79, 114, 105, 103, 105, 110]⟩, .string ⟨#[42]⟩] 59)) (some ⟨(wq93).heap.size, 0, none⟩) (flat [(⟨#[65, 99, 99, 101, 115, 115, 45, 67, 111, 110, 116, 114, 111, 108, 45, 65, 108, 108, 111, 119, 45, 79, 114, 105, 103, 105, 110]⟩, ⟨#[42]⟩)]) := RowD.lit (fun k hd => Nat.lt_of_lt_of_le (HL.out k hd) (Keep.ahead hWx hKc).size)
    have hn := hn.trans (hbv.mono hn.size)
    have hKc : Keep D (X3 w (midC m (some ⟨lb0, lo0, none⟩) c) (rqC r FA fc TA tc)) ((wq93).alloc (.cells #[.string ⟨#[65, 99, 99, 101, 115, 115, 45, 67, 111, 110, 116, 114, 111, 108, 45, 65, 108, 108, 111, 119, 45, 79, 114, 105, 103, 105, 110]⟩, .string ⟨#[42]⟩] 59)) := hKc.step hbv
    have hK3 := hK3.step hbv
    clear hbv
    skip
    refine hK.out _ _ (.inr ⟨HSC.out _ hKc, HB9.out _ hK3⟩) (fun _ => ?_)
    clear hK K
    (try simp only [List.getElem_toArray, List.getElem_cons_succ, List.getElem_cons_zero, Act.put, List.setIfInBounds_toArray, List.set_cons_zero, List.set_cons_succ])
    refine anyT_ready (rs := [5]) (by kernel_rfl) (by simp) ?_
    refine (AllReadyT.cons rfl (fun K hK => ?_) AllReadyT.nil)
    go_simp
    have hLD := fun c d => laid_any ys yr yb A1 (some ⟨(wq93).heap.size, 0, none⟩) c d (yf) ([(⟨#[65, 99, 99, 101, 115, 115, 45, 67, 111, 110, 116, 114, 111, 108, 45, 65, 108, 108, 111, 119, 45, 79, 114, 105, 103, 105, 110]⟩, ⟨#[42]⟩)]) _ hr95.row hr96.row (Nat.le_trans hfit.many (Nat.le_trans HN.out (by decide))) (by simp)
    obtain ⟨l5, hLe⟩ : ∃ x : List Fl, x = (yf) ++ ([(⟨#[65, 99, 99, 101, 115, 115, 45, 67, 111, 110, 116, 114, 111, 108, 45, 65, 108, 108, 111, 119, 45, 79, 114, 105, 103, 105, 110]⟩, ⟨#[42]⟩)]) := ⟨_, rfl⟩
    rw [← hLe] at hLD
    have HLE := Lib.hid hLe
    clear hLe
    go_at_call 93
    refine (hLD _ _).mono ?_
    rintro e wq97 ⟨B5, d5, rfl, hol, hbv⟩
    clear hLD
    have hr98 := hr95.below hbv
    have hr99 := hr96.below hbv
    have hr100 : RowD D wq97 B5 _ := RowD.of_own hol hol (fun k hd => Nat.lt_of_lt_of_le (HL.out k hd) (Keep.ahead hWx hKc).size)
    have hnl := hn.size
    have hn := hn.trans (hbv.mono hn.size)
    have hKc : Keep D (X3 w (midC m (some ⟨lb0, lo0, none⟩) c) (rqC r FA fc TA tc)) wq97 := hKc.step hbv
    have hK3 := hK3.step hbv
    have hbl := hbv
    (try go_wp2_with fail)
    refine hK.out _ _ (.inr ⟨HSC.out _ hKc, HB9.out _ hK3⟩) (fun _ => ?_)
    clear hK K
    (try simp only [List.getElem_toArray, List.getElem_cons_succ, List.getElem_cons_zero, Act.put, List.setIfInBounds_toArray, List.set_cons_zero, List.set_cons_succ])
    refine anyT_ready (rs := [7]) (by kernel_rfl) (by simp) ?_
    refine (AllReadyT.cons rfl (fun K hK => ?_) AllReadyT.nil)
    go_simp
    go_at_call 111
    refine (HVR.out _ (Keep.ahead hWx hKc)).mono ?_
    rintro e wq101 ⟨VA, vc, rfl, hov, hbv⟩
    have hcapv := own_cap hov
    have hr102 := hr98.below hbv
    have hr103 := hr99.below hbv
    have hr104 := hr100.below hbv
    have hr105 : RowD D wq101 VA (flat vp) := RowD.of_own hov hov (fun k hd => Nat.lt_of_lt_of_le (HL.out k hd) (Keep.ahead hWx hKc).size)
    have hn := hn.trans (hbv.mono hn.size)
    have hKc : Keep D (X3 w (midC m (some ⟨lb0, lo0, none⟩) c) (rqC r FA fc TA tc)) wq101 := hKc.step hbv
    have hK3 := hK3.step hbv
    clear hov
    clear hbv
    (try go_wp2_with fail)
    refine hK.out _ _ (.inr ⟨HSC.out _ hKc, HB9.out _ hK3⟩) (fun _ => ?_)
    clear hK K
    (try simp only [List.getElem_toArray, List.getElem_cons_succ, List.getElem_cons_zero, Act.put, List.setIfInBounds_toArray, List.set_cons_zero, List.set_cons_succ])
    refine anyT_ready (rs := [8]) (by kernel_rfl) (by simp) ?_
    refine (AllReadyT.cons rfl (fun K hK => ?_) AllReadyT.nil)
    go_simp
    go_at_call 93
    refine (laid_any ys yr yb B5 _ _ _ _ _ _ hr104.row hr105.row (by rw [HLE.out, List.length_append]; have h1 := hfit.many; have h2 := HN.out; simp only [List.length_cons, List.length_nil]; exact Nat.le_trans (Nat.succ_le_succ (Nat.le_trans h1 h2)) (by decide)) (by have := HVF.out.2; omega)).mono ?_
    rintro e wq106 ⟨B8, d8, rfl, hol, hbv⟩
    have hr107 := hr102.below hbv
    have hr108 := hr103.below hbv
    have hr109 := hr104.below hbv
    have hr110 := hr105.below hbv
    have hr111 : RowD D wq106 B8 _ := RowD.of_own hol hol (fun k hd => Nat.lt_of_lt_of_le (HL.out k hd) (Keep.ahead hWx hKc).size)
    have hnl := hn.size
    have hn := hn.trans (hbv.mono hn.size)
    have hKc : Keep D (X3 w (midC m (some ⟨lb0, lo0, none⟩) c) (rqC r FA fc TA tc)) wq106 := hKc.step hbv
    have hK3 := hK3.step hbv
    have hbl := hbv
    (try go_wp2_with fail)
    refine hK.out _ _ (.inr ⟨HSC.out _ hKc, HB9.out _ hK3⟩) (fun _ => ?_)
    clear hK K
    (try simp only [List.getElem_toArray, List.getElem_cons_succ, List.getElem_cons_zero, Act.put, List.setIfInBounds_toArray, List.set_cons_zero, List.set_cons_succ])
    refine anyT_ready (rs := [9]) (by kernel_rfl) (by simp) ?_
    refine AllReadyT.cons rfl (fun K hK => ?_) AllReadyT.nil
    obtain ⟨_, ⟨r0, r1, r2, r3⟩, f0, f1, f2, f3⟩ := X3_facts HL.out hKc
    have hz2 : w.heap.size + 1 + 1 < wq106.heap.size := by have := keep_size hKc; omega
    have HKZ := Lib.hid (show Keep (Btw w (w3).drew) wq93 wq106 from Keep.of hn)
    have hsb : ((w3).drew).heap.size ≤ (wq101).heap.size := Nat.le_trans hk.size hnl
    have HO := Lib.hid (own_less (b' := ((w3).drew).heap.size) hol hsb)
    have HTT := Lib.hid hTT
    have HK2 := Lib.hid hk
    have HFT := Lib.hid hfit
    have HX1 := Lib.hid hX1
    have HWL := Lib.hid (show w.heap.size + 1 + 1 < ((w3).drew).heap.size from hwl)
    clear hfit hTT hk hKc hn hol hbl hrow hX1 hsb hcapv hnl hwl hK3 hr107 hr108 hr109 hr110 hr111
    go_simp
    refine hK.out _ _ (.inl (by rfl)) (fun _ => ?_)
    clear hK K
    (try simp only [List.getElem_toArray, List.getElem_cons_succ, List.getElem_cons_zero, Act.put, List.setIfInBounds_toArray, List.set_cons_zero, List.set_cons_succ])
    refine anyT_done (by kernel_rfl) ?_ _
    go_wp2
    exact bodyPost_ret (v := rsV ⟨ys, yr, l5 ++ vp, yb⟩ B8 d8) (by simp [results, Tryz.results71, go_sem, rsV, r0, r1, r2, r3]) rfl
     ((fin_own (x := ⟨ys, yr, l5 ++ vp, yb⟩) (F := behindP m r) (M := N + 2) (b := w.heap.size + 1 + 1) HL.out HX1.out (by omega) HWL.out HTT.out HK2.out HKZ.out HO.out (by rw [HBE.out, HLE.out]; rfl) (by have h := fit_append (l := [(acaoN, ⟨#[42]⟩)] ++ vp) HFT.out (by have := HVF.out.2; rw [List.length_append]; simp; omega) (wide_append (wide_cons acaoN_size (Nat.le_trans HOV.out (by unfold maxLen; decide)) wide_nil) HVF.out.1); rw [← List.append_assoc, show yf ++ [(acaoN, ⟨#[42]⟩)] = l5 from HLE.out.symm] at h; exact h) _ _ _ _).imp (Nat.le_refl _) fun _ _ _ h => doT_inl HAI.out h)
   ·skip
    go_simp
    have hbv : Below ((w3).drew).heap.size ((w3).drew) (((w3).drew).alloc (.cells #[.string ⟨#[65, 99, 99, 101, 115, 115, 45, 67, 111, 110, 116, 114, 111, 108, 45, 65, 108, 108, 111, 119, 45, 79, 114, 105, 103, 105, 110]⟩, .string ⟨#[42]⟩] 59)) := (Below.refl _ _).alloc (Nat.le_refl _) _
    have hr113 : RowD D (((w3).drew).alloc (.cells #[.string ⟨#[65, 99, 99, 101, 115, 115, 45, 67, 111, 110, 116, 114, 111, 108, 45, 65, 108, 108, 111, 119, 45, 79, 114, 105, 103, 105, 110]⟩, .string ⟨#[42]⟩] 59)) (some ⟨((w3).drew).heap.size, 0, none⟩) (flat [(⟨#[65, 99, 99, 101, 115, 115, 45, 67, 111, 110, 116, 114, 111, 108, 45, 65, 108, 108, 111, 119, 45, 79, 114, 105, 103, 105, 110]⟩, ⟨#[42]⟩)]) := RowD.lit (fun k hd => Nat.lt_of_lt_of_le (HL.out k hd) (Keep.ahead hWx hKc).size)
    have hBc : Below (X3 w (midC m (some ⟨lb0, lo0, none⟩) c) (rqC r FA fc TA tc)).heap.size (X3 w (midC m (some ⟨lb0, lo0, none⟩) c) (rqC r FA fc TA tc)) (((w3).drew).alloc (.cells #[.string ⟨#[65, 99, 99, 101, 115, 115, 45, 67, 111, 110, 116, 114, 111, 108, 45, 65, 108, 108, 111, 119, 45, 79, 114, 105, 103, 105, 110]⟩, .string ⟨#[42]⟩] 59)) := hBc.trans (hbv.mono hBc.size)
    have hKc : Keep D (X3 w (midC m (some ⟨lb0, lo0, none⟩) c) (rqC r FA fc TA tc)) (((w3).drew).alloc (.cells #[.string ⟨#[65, 99, 99, 101, 115, 115, 45, 67, 111, 110, 116, 114, 111, 108, 45, 65, 108, 108, 111, 119, 45, 79, 114, 105, 103, 105, 110]⟩, .string ⟨#[42]⟩] 59)) := hKc.step hbv
    have hK3 := hK3.step hbv
    clear hbv
    skip
    refine hK.out _ _ (.inr ⟨HSC.out _ hKc, HB9.out _ hK3⟩) (fun _ => ?_)
    clear hK K
    (try simp only [List.getElem_toArray, List.getElem_cons_succ, List.getElem_cons_zero, Act.put, List.setIfInBounds_toArray, List.set_cons_zero, List.set_cons_succ])
    refine anyT_ready (rs := [2]) (by kernel_rfl) (by simp) ?_
    refine (AllReadyT.cons rfl (fun K hK => ?_) AllReadyT.nil)
    go_simp
    refine (HC.out _ (X3_up hBc)).mono ?_
    rintro e wq114 ⟨y, A1, c1, rfl, hrow, hfit, hTT, hk⟩
    obtain ⟨ys, yr, yf, yb⟩ := y
    unfold rsV
    dsimp only at hrow hfit ⊢
    have hr115 := hr113.keep hk
    have hX1 := X3_up hBc
    have hwl := X3_lt hBc
    have hKc := hKc.trans hk
    have hK3 := hK3.trans hk
    have hn : Below wq114.heap.size wq114 wq114 := Below.refl _ _
    clear hBc
    (try go_wp2_with fail)
    refine hK.out _ _ (.inr ⟨HSC.out _ hKc, HB9.out _ hK3⟩) (fun _ => ?_)
    clear hK K
    (try simp only [List.getElem_toArray, List.getElem_cons_succ, List.getElem_cons_zero, Act.put, List.setIfInBounds_toArray, List.set_cons_zero, List.set_cons_succ])
    refine anyT_ready (rs := [5]) (by kernel_rfl) (by simp) ?_
    refine (AllReadyT.cons rfl (fun K hK => ?_) AllReadyT.nil)
    go_simp
    have hLD := fun c d => laid_any ys yr yb A1 (some ⟨((w3).drew).heap.size, 0, none⟩) c d (yf) ([(⟨#[65, 99, 99, 101, 115, 115, 45, 67, 111, 110, 116, 114, 111, 108, 45, 65, 108, 108, 111, 119, 45, 79, 114, 105, 103, 105, 110]⟩, ⟨#[42]⟩)]) _ hrow.row hr115.row (Nat.le_trans hfit.many (Nat.le_trans HN.out (by decide))) (by simp)
    obtain ⟨l5, hLe⟩ : ∃ x : List Fl, x = (yf) ++ ([(⟨#[65, 99, 99, 101, 115, 115, 45, 67, 111, 110, 116, 114, 111, 108, 45, 65, 108, 108, 111, 119, 45, 79, 114, 105, 103, 105, 110]⟩, ⟨#[42]⟩)]) := ⟨_, rfl⟩
    rw [← hLe] at hLD
    have HLE := Lib.hid hLe
    clear hLe
    go_at_call 93
    refine (hLD _ _).mono ?_
    rintro e wq116 ⟨B5, d5, rfl, hol, hbv⟩
    clear hLD
    have hr117 := hr115.below hbv
    have hr118 := hrow.below hbv
    have hr119 : RowD D wq116 B5 _ := RowD.of_own hol hol (fun k hd => Nat.lt_of_lt_of_le (HL.out k hd) (Keep.ahead hWx hKc).size)
    have hnl := hn.size
    have hn := hn.trans (hbv.mono hn.size)
    have hKc : Keep D (X3 w (midC m (some ⟨lb0, lo0, none⟩) c) (rqC r FA fc TA tc)) wq116 := hKc.step hbv
    have hK3 := hK3.step hbv
    have hbl := hbv
    (try go_wp2_with fail)
    refine hK.out _ _ (.inr ⟨HSC.out _ hKc, HB9.out _ hK3⟩) (fun _ => ?_)
    clear hK K
    (try simp only [List.getElem_toArray, List.getElem_cons_succ, List.getElem_cons_zero, Act.put, List.setIfInBounds_toArray, List.set_cons_zero, List.set_cons_succ])
    refine anyT_ready (rs := [7]) (by kernel_rfl) (by simp) ?_
    refine (AllReadyT.cons rfl (fun K hK => ?_) AllReadyT.nil)
    go_simp
    go_at_call 111
    refine (HVR.out _ (Keep.ahead hWx hKc)).mono ?_
    rintro e wq120 ⟨VA, vc, rfl, hov, hbv⟩
    have hcapv := own_cap hov
    have hr121 := hr117.below hbv
    have hr122 := hr118.below hbv
    have hr123 := hr119.below hbv
    have hr124 : RowD D wq120 VA (flat vp) := RowD.of_own hov hov (fun k hd => Nat.lt_of_lt_of_le (HL.out k hd) (Keep.ahead hWx hKc).size)
    have hn := hn.trans (hbv.mono hn.size)
    have hKc : Keep D (X3 w (midC m (some ⟨lb0, lo0, none⟩) c) (rqC r FA fc TA tc)) wq120 := hKc.step hbv
    have hK3 := hK3.step hbv
    clear hov
    clear hbv
    (try go_wp2_with fail)
    refine hK.out _ _ (.inr ⟨HSC.out _ hKc, HB9.out _ hK3⟩) (fun _ => ?_)
    clear hK K
    (try simp only [List.getElem_toArray, List.getElem_cons_succ, List.getElem_cons_zero, Act.put, List.setIfInBounds_toArray, List.set_cons_zero, List.set_cons_succ])
    refine anyT_ready (rs := [8]) (by kernel_rfl) (by simp) ?_
    refine (AllReadyT.cons rfl (fun K hK => ?_) AllReadyT.nil)
    go_simp
    go_at_call 93
    refine (laid_any ys yr yb B5 _ _ _ _ _ _ hr123.row hr124.row (by rw [HLE.out, List.length_append]; have h1 := hfit.many; have h2 := HN.out; simp only [List.length_cons, List.length_nil]; exact Nat.le_trans (Nat.succ_le_succ (Nat.le_trans h1 h2)) (by decide)) (by have := HVF.out.2; omega)).mono ?_
    rintro e wq125 ⟨B8, d8, rfl, hol, hbv⟩
    have hr126 := hr121.below hbv
    have hr127 := hr122.below hbv
    have hr128 := hr123.below hbv
    have hr129 := hr124.below hbv
    have hr130 : RowD D wq125 B8 _ := RowD.of_own hol hol (fun k hd => Nat.lt_of_lt_of_le (HL.out k hd) (Keep.ahead hWx hKc).size)
    have hnl := hn.size
    have hn := hn.trans (hbv.mono hn.size)
    have hKc : Keep D (X3 w (midC m (some ⟨lb0, lo0, none⟩) c) (rqC r FA fc TA tc)) wq125 := hKc.step hbv
    have hK3 := hK3.step hbv
    have hbl := hbv
    (try go_wp2_with fail)
    refine hK.out _ _ (.inr ⟨HSC.out _ hKc, HB9.out _ hK3⟩) (fun _ => ?_)
    clear hK K
    (try simp only [List.getElem_toArray, List.getElem_cons_succ, List.getElem_cons_zero, Act.put, List.setIfInBounds_toArray, List.set_cons_zero, List.set_cons_succ])
    refine anyT_ready (rs := [9]) (by kernel_rfl) (by simp) ?_
    refine AllReadyT.cons rfl (fun K hK => ?_) AllReadyT.nil
    obtain ⟨_, ⟨r0, r1, r2, r3⟩, f0, f1, f2, f3⟩ := X3_facts HL.out hKc
    have hz2 : w.heap.size + 1 + 1 < wq125.heap.size := by have := keep_size hKc; omega
    have HKZ := Lib.hid (show Keep (Btw w (((w3).drew).alloc (.cells #[.string ⟨#[65, 99, 99, 101, 115, 115, 45, 67, 111, 110, 116, 114, 111, 108, 45, 65, 108, 108, 111, 119, 45, 79, 114, 105, 103, 105, 110]⟩, .string ⟨#[42]⟩] 59))) wq114 wq125 from Keep.of hn)
    have hsb : ((((w3).drew).alloc (.cells #[.string ⟨#[65, 99, 99, 101, 115, 115, 45, 67, 111, 110, 116, 114, 111, 108, 45, 65, 108, 108, 111, 119, 45, 79, 114, 105, 103, 105, 110]⟩, .string ⟨#[42]⟩] 59))).heap.size ≤ (wq120).heap.size := Nat.le_trans hk.size hnl
    have HO := Lib.hid (own_less (b' := ((((w3).drew).alloc (.cells #[.string ⟨#[65, 99, 99, 101, 115, 115, 45, 67, 111, 110, 116, 114, 111, 108, 45, 65, 108, 108, 111, 119, 45, 79, 114, 105, 103, 105, 110]⟩, .string ⟨#[42]⟩] 59))).heap.size) hol hsb)
    have HTT := Lib.hid hTT
    have HK2 := Lib.hid hk
    have HFT := Lib.hid hfit
    have HX1 := Lib.hid hX1
    have HWL := Lib.hid (show w.heap.size + 1 + 1 < ((((w3).drew).alloc (.cells #[.string ⟨#[65, 99, 99, 101, 115, 115, 45, 67, 111, 110, 116, 114, 111, 108, 45, 65, 108, 108, 111, 119, 45, 79, 114, 105, 103, 105, 110]⟩, .string ⟨#[42]⟩] 59))).heap.size from hwl)
    clear hfit hTT hk hKc hn hol hbl hrow hX1 hsb hcapv hnl hwl hK3 hr126 hr127 hr128 hr129 hr130
    go_simp
    refine hK.out _ _ (.inl (by rfl)) (fun _ => ?_)
    clear hK K
    (try simp only [List.getElem_toArray, List.getElem_cons_succ, List.getElem_cons_zero, Act.put, List.setIfInBounds_toArray, List.set_cons_zero, List.set_cons_succ])
    refine anyT_done (by kernel_rfl) ?_ _
    go_wp2
    exact bodyPost_ret (v := rsV ⟨ys, yr, l5 ++ vp, yb⟩ B8 d8) (by simp [results, Tryz.results71, go_sem, rsV, r0, r1, r2, r3]) rfl
     ((fin_own (x := ⟨ys, yr, l5 ++ vp, yb⟩) (F := behindP m r) (M := N + 2) (b := w.heap.size + 1 + 1) HL.out HX1.out (by omega) HWL.out HTT.out HK2.out HKZ.out HO.out (by rw [HBE.out, HLE.out]; rfl) (by have h := fit_append (l := [(acaoN, ⟨#[42]⟩)] ++ vp) HFT.out (by have := HVF.out.2; rw [List.length_append]; simp; omega) (wide_append (wide_cons acaoN_size (Nat.le_trans HOV.out (by unfold maxLen; decide)) wide_nil) HVF.out.1); rw [← List.append_assoc, show yf ++ [(acaoN, ⟨#[42]⟩)] = l5 from HLE.out.symm] at h; exact h) _ _ _ _).imp (Nat.le_refl _) fun _ _ _ h => doT_inl HAI.out h)
  ·rw [h1] at hst
   rw [h2] at HCS
   clear h1 h2
   go_enter Tryz.func71, Tryz.ntmps71
   go_wp2_with fail
   refine (HO1.out _ hWx).mono ?_
   rintro e w1 ⟨rfl, hb1⟩
   have hb1 : Below (X3 w (midC m (some ⟨lb0, lo0, none⟩) c) (rqC r FA fc TA tc)).heap.size (X3 w (midC m (some ⟨lb0, lo0, none⟩) c) (rqC r FA fc TA tc)) w1 := hb1
   have hlb := Nat.lt_of_lt_of_le hlb (X3_up hb1).size
   obtain ⟨⟨⟨m0, m1, m2, m3, m4⟩, a0, a1, a2, a3, a4, a5, a6⟩, ⟨r0, r1, r2, r3⟩, f0, f1, f2, f3⟩ := X3_facts HL.out (Keep.of (D := D) hb1)
   have hz2 := X3_lt hb1
   have hz1 := Nat.lt_of_succ_lt hz2
   have hz0 := Nat.lt_of_succ_lt hz1
   have hlc1 := HFB.out _ (X3_up hb1)
   go_wp2_with fail
   refine (HCS.out _ (X3_up hb1)).mono ?_
   rintro e w9 ⟨rfl, rfl⟩
   have hb2 := hb1.alloc hb1.size (.cells #[.string ⟨#[65, 99, 99, 101, 115, 115, 45, 67, 111, 110, 116, 114, 111, 108, 45, 65, 108, 108, 111, 119, 45, 79, 114, 105, 103, 105, 110]⟩, .string ov] 59)
   go_wp2_with fail
   refine (HO2.out _ (X3_up hb2)).mono ?_
   rintro e w3 ⟨rfl, hb3⟩
   have hbx : Below (w1.heap.size + 1) (w1.alloc (.cells #[.string ⟨#[65, 99, 99, 101, 115, 115, 45, 67, 111, 110, 116, 114, 111, 108, 45, 65, 108, 108, 111, 119, 45, 79, 114, 105, 103, 105, 110]⟩, .string ov] 59)) w3 := by simpa using hb3
   have hb4 := hb2.trans (hb3.mono hb2.size)
   obtain ⟨c0, c1⟩ := cell2 hbx
   have hzx : w1.heap.size < w3.heap.size := box_size hbx
   have HB9 := Lib.hid (fun (W : World) (h : Keep D w3 W) => (⟨(h.cell (p := ⟨w1.heap.size, 0, none⟩) hzx (fun hd => by have h : w1.heap.size < w.heap.size := HL.out _ hd; omega)).trans c0, (h.cell (p := ⟨w1.heap.size, 1, none⟩) hzx (fun hd => by have h : w1.heap.size < w.heap.size := HL.out _ hd; omega)).trans c1⟩ : W.cell? ⟨w1.heap.size, 0, none⟩ = some (.string ⟨#[65, 99, 99, 101, 115, 115, 45, 67, 111, 110, 116, 114, 111, 108, 45, 65, 108, 108, 111, 119, 45, 79, 114, 105, 103, 105, 110]⟩) ∧ W.cell? ⟨w1.heap.size, 1, none⟩ = some (.string ov)))
   clear m0 m1 m2 m3 m4 a0 a1 a2 a3 a4 a5 a6 r0 r1 r2 r3 f0 f1 f2 f3 hz2 hz1 hz0 hlc1 hlb hb3 hbx hb2
   have hlb := Nat.lt_of_lt_of_le (HLB.out) (X3_up hb4).size
   obtain ⟨⟨⟨m0, m1, m2, m3, m4⟩, a0, a1, a2, a3, a4, a5, a6⟩, ⟨r0, r1, r2, r3⟩, f0, f1, f2, f3⟩ := X3_facts HL.out (Keep.of (D := D) hb4)
   have hz2 := X3_lt hb4
   have hz1 := Nat.lt_of_succ_lt hz2
   have hz0 := Nat.lt_of_succ_lt hz1
   have hlc1 := HFB.out _ (X3_up hb4)
   go_wp2_with fail
   have hBd := below_dr hb4
   have hS0 := HSC.out _ (Keep.of hBd)
   refine region_T (t := 9) (S := fun W => ((W.cell? ⟨w.heap.size, 0, none⟩ = some (.int .i64 m.kind) ∧ W.cell? ⟨w.heap.size, 1, none⟩ = some (.string m.name) ∧ W.cell? ⟨w.heap.size, 2, none⟩ = some (.string m.value) ∧ W.cell? ⟨w.heap.size, 3, none⟩ = some (.slice (some ⟨lb0, lo0, none⟩) m.list.length c) ∧ W.cell? ⟨w.heap.size, 4, none⟩ = some (.int .i64 m.n)) ∧ (W.cell? ⟨w.heap.size + 1, 0, none⟩ = some (.string r.method) ∧ W.cell? ⟨w.heap.size + 1, 1, none⟩ = some (.string r.target) ∧ W.cell? ⟨w.heap.size + 1, 2, none⟩ = some (.int .i64 r.major) ∧ W.cell? ⟨w.heap.size + 1, 3, none⟩ = some (.int .i64 r.minor) ∧ W.cell? ⟨w.heap.size + 1, 4, none⟩ = some (.slice FA r.fields.length fc) ∧ W.cell? ⟨w.heap.size + 1, 5, none⟩ = some (.string r.body) ∧ W.cell? ⟨w.heap.size + 1, 6, none⟩ = some (.slice TA r.trailers.length tc))) ∧ W.cell? ⟨w1.heap.size, 0, none⟩ = some (.string ⟨#[65, 99, 99, 101, 115, 115, 45, 67, 111, 110, 116, 114, 111, 108, 45, 65, 108, 108, 111, 119, 45, 79, 114, 105, 103, 105, 110]⟩) ∧ W.cell? ⟨w1.heap.size, 1, none⟩ = some (.string ov)) (by kernel_rfl) ⟨hS0, HB9.out _ (Keep.of (below_dr (Below.refl _ _)))⟩ (fun hHeld => ?_)
   refine' anyT_take (i := 0) (v := _) rfl (by kernel_rfl) (by kernel_rfl) (by kernel_rfl) (by kernel_rfl) (by rfl) (fun _ _ _ h => h) (Or.inl ⟨by rfl, ?h19y⟩) hHeld ?h19r
   case h19y => (intro w hSw; (try dsimp only at hSw); (try simp only [List.getElem_toArray, List.getElem_cons_zero]); go_simp; try (with_reducible rfl))
   (try simp only [List.getElem_toArray, List.getElem_cons_zero, Act.put, List.setIfInBounds_toArray, List.set_cons_zero, List.set_cons_succ])
   refine' anyT_take (i := 1) (v := _) rfl (by kernel_rfl) (by kernel_rfl) (by kernel_rfl) (by kernel_rfl) (by rfl) (fun _ _ _ h => h) (Or.inl ⟨by rfl, ?h20y⟩) hHeld ?h20r
   case h20y => (intro w hSw; (try dsimp only at hSw); obtain ⟨⟨⟨s0, s1, s2, s3, s4⟩, t0, t1, t2, t3, t4, t5, t6⟩, z0, z1⟩ := hSw; (try simp only [List.getElem_toArray, List.getElem_cons_succ, List.getElem_cons_zero]); go_simp; try (with_reducible rfl))
   (try simp only [List.getElem_toArray, List.getElem_cons_succ, List.getElem_cons_zero, Act.put, List.setIfInBounds_toArray, List.set_cons_zero, List.set_cons_succ])
   refine' anyT_take (i := 3) (v := _) rfl (by kernel_rfl) (by kernel_rfl) (by kernel_rfl) (by kernel_rfl) (by rfl) (fun _ _ _ h => h) (Or.inl ⟨by rfl, ?h21y⟩) hHeld ?h21r
   case h21y => (intro w hSw; (try dsimp only at hSw); obtain ⟨⟨⟨s0, s1, s2, s3, s4⟩, t0, t1, t2, t3, t4, t5, t6⟩, z0, z1⟩ := hSw; (try simp only [List.getElem_toArray, List.getElem_cons_succ, List.getElem_cons_zero]); go_simp; try (with_reducible rfl))
   (try simp only [List.getElem_toArray, List.getElem_cons_succ, List.getElem_cons_zero, Act.put, List.setIfInBounds_toArray, List.set_cons_zero, List.set_cons_succ])
   refine' anyT_take (i := 6) (v := _) rfl (by kernel_rfl) (by kernel_rfl) (by kernel_rfl) (by kernel_rfl) (by rfl) (fun _ _ _ h => h) (Or.inl ⟨by rfl, ?h22y⟩) hHeld ?h22r
   case h22y => (intro w hSw; (try dsimp only at hSw); obtain ⟨⟨⟨s0, s1, s2, s3, s4⟩, t0, t1, t2, t3, t4, t5, t6⟩, z0, z1⟩ := hSw; (try simp only [List.getElem_toArray, List.getElem_cons_succ, List.getElem_cons_zero]); go_simp; try (with_reducible rfl))
   (try simp only [List.getElem_toArray, List.getElem_cons_succ, List.getElem_cons_zero, Act.put, List.setIfInBounds_toArray, List.set_cons_zero, List.set_cons_succ])
   have hKc : Keep D (X3 w (midC m (some ⟨lb0, lo0, none⟩) c) (rqC r FA fc TA tc)) (w3).drew := Keep.of hBd
   have hBc := hBd
   clear hS0 hHeld
   have hK3 : Keep D w3 (w3).drew := Keep.of (below_dr (Below.refl _ _))
   refine anyT_ready (rs := [2, 4]) (by kernel_rfl) (by simp) ?_
   refine (AllReadyT.cons rfl (fun K hK => ?_) (AllReadyT.cons rfl (fun K hK => ?_) AllReadyT.nil))
   ·skip
    go_simp
    refine (HC.out _ (X3_up hBc)).mono ?_
    rintro e wq131 ⟨y, A1, c1, rfl, hrow, hfit, hTT, hk⟩
    obtain ⟨ys, yr, yf, yb⟩ := y
    unfold rsV
    dsimp only at hrow hfit ⊢
    have hX1 := X3_up hBc
    have hwl := X3_lt hBc
    have hKc := hKc.trans hk
    have hK3 := hK3.trans hk
    have hn : Below wq131.heap.size wq131 wq131 := Below.refl _ _
    clear hBc
    (try go_wp2_with fail)
    refine hK.out _ _ (.inr ⟨HSC.out _ hKc, HB9.out _ hK3⟩) (fun _ => ?_)
    clear hK K
    (try simp only [List.getElem_toArray, List.getElem_cons_succ, List.getElem_cons_zero, Act.put, List.setIfInBounds_toArray, List.set_cons_zero, List.set_cons_succ])
    refine anyT_ready (rs := [4]) (by kernel_rfl) (by simp) ?_
    refine (AllReadyT.cons rfl (fun K hK => ?_) AllReadyT.nil)
    go_simp
    have hbv : Below (wq131).heap.size (wq131) ((wq131).alloc (.cells #[.string ⟨#[65, 99, 99, 101, 115, 115, 45, 67, 111, 110, 116, 114, 111, 108, 45, 65, 108, 108, 111, 119, 45, 79, 114, 105, 103, 105, 110]⟩, .string ov] 59)) := (Below.refl _ _).alloc (Nat.le_refl _) _
    have hr133 := hrow.below hbv
    have hr134 : RowD D ((wq131).alloc (.cells #[.string ⟨#[65, 99, 99, 101, 115, 115, 45, 67, 111, 110, 116, 114, 111, 108, 45, 65, 108, 108, 111, 119, 45, 79, 114, 105, 103, 105, 110]⟩, .string ov] 59)) (some ⟨(wq131).heap.size, 0, none⟩) (flat [(⟨#[65, 99, 99, 101, 115, 115, 45, 67, 111, 110, 116, 114, 111, 108, 45, 65, 108, 108, 111, 119, 45, 79, 114, 105, 103, 105, 110]⟩, ov)]) := RowD.lit (fun k hd => Nat.lt_of_lt_of_le (HL.out k hd) (Keep.ahead hWx hKc).size)
    have hn := hn.trans (hbv.mono hn.size)
    have hKc : Keep D (X3 w (midC m (some ⟨lb0, lo0, none⟩) c) (rqC r FA fc TA tc)) ((wq131).alloc (.cells #[.string ⟨#[65, 99, 99, 101, 115, 115, 45, 67, 111, 110, 116, 114, 111, 108, 45, 65, 108, 108, 111, 119, 45, 79, 114, 105, 103, 105, 110]⟩, .string ov] 59)) := hKc.step hbv
    have hK3 := hK3.step hbv
    clear hbv
    skip
    refine hK.out _ _ (.inr ⟨HSC.out _ hKc, HB9.out _ hK3⟩) (fun _ => ?_)
    clear hK K
    (try simp only [List.getElem_toArray, List.getElem_cons_succ, List.getElem_cons_zero, Act.put, List.setIfInBounds_toArray, List.set_cons_zero, List.set_cons_succ])
    refine anyT_ready (rs := [5]) (by kernel_rfl) (by simp) ?_
    refine (AllReadyT.cons rfl (fun K hK => ?_) AllReadyT.nil)
    go_simp
    have hLD := fun c d => laid_any ys yr yb A1 (some ⟨(wq131).heap.size, 0, none⟩) c d (yf) ([(⟨#[65, 99, 99, 101, 115, 115, 45, 67, 111, 110, 116, 114, 111, 108, 45, 65, 108, 108, 111, 119, 45, 79, 114, 105, 103, 105, 110]⟩, ov)]) _ hr133.row hr134.row (Nat.le_trans hfit.many (Nat.le_trans HN.out (by decide))) (by simp)
    obtain ⟨l5, hLe⟩ : ∃ x : List Fl, x = (yf) ++ ([(⟨#[65, 99, 99, 101, 115, 115, 45, 67, 111, 110, 116, 114, 111, 108, 45, 65, 108, 108, 111, 119, 45, 79, 114, 105, 103, 105, 110]⟩, ov)]) := ⟨_, rfl⟩
    rw [← hLe] at hLD
    have HLE := Lib.hid hLe
    clear hLe
    go_at_call 93
    refine (hLD _ _).mono ?_
    rintro e wq135 ⟨B5, d5, rfl, hol, hbv⟩
    clear hLD
    have hr136 := hr133.below hbv
    have hr137 := hr134.below hbv
    have hr138 : RowD D wq135 B5 _ := RowD.of_own hol hol (fun k hd => Nat.lt_of_lt_of_le (HL.out k hd) (Keep.ahead hWx hKc).size)
    have hnl := hn.size
    have hn := hn.trans (hbv.mono hn.size)
    have hKc : Keep D (X3 w (midC m (some ⟨lb0, lo0, none⟩) c) (rqC r FA fc TA tc)) wq135 := hKc.step hbv
    have hK3 := hK3.step hbv
    have hbl := hbv
    (try go_wp2_with fail)
    refine hK.out _ _ (.inr ⟨HSC.out _ hKc, HB9.out _ hK3⟩) (fun _ => ?_)
    clear hK K
    (try simp only [List.getElem_toArray, List.getElem_cons_succ, List.getElem_cons_zero, Act.put, List.setIfInBounds_toArray, List.set_cons_zero, List.set_cons_succ])
    refine anyT_ready (rs := [7]) (by kernel_rfl) (by simp) ?_
    refine (AllReadyT.cons rfl (fun K hK => ?_) AllReadyT.nil)
    go_simp
    go_at_call 111
    refine (HVR.out _ (Keep.ahead hWx hKc)).mono ?_
    rintro e wq139 ⟨VA, vc, rfl, hov, hbv⟩
    have hcapv := own_cap hov
    have hr140 := hr136.below hbv
    have hr141 := hr137.below hbv
    have hr142 := hr138.below hbv
    have hr143 : RowD D wq139 VA (flat vp) := RowD.of_own hov hov (fun k hd => Nat.lt_of_lt_of_le (HL.out k hd) (Keep.ahead hWx hKc).size)
    have hn := hn.trans (hbv.mono hn.size)
    have hKc : Keep D (X3 w (midC m (some ⟨lb0, lo0, none⟩) c) (rqC r FA fc TA tc)) wq139 := hKc.step hbv
    have hK3 := hK3.step hbv
    clear hov
    clear hbv
    (try go_wp2_with fail)
    refine hK.out _ _ (.inr ⟨HSC.out _ hKc, HB9.out _ hK3⟩) (fun _ => ?_)
    clear hK K
    (try simp only [List.getElem_toArray, List.getElem_cons_succ, List.getElem_cons_zero, Act.put, List.setIfInBounds_toArray, List.set_cons_zero, List.set_cons_succ])
    refine anyT_ready (rs := [8]) (by kernel_rfl) (by simp) ?_
    refine (AllReadyT.cons rfl (fun K hK => ?_) AllReadyT.nil)
    go_simp
    go_at_call 93
    refine (laid_any ys yr yb B5 _ _ _ _ _ _ hr142.row hr143.row (by rw [HLE.out, List.length_append]; have h1 := hfit.many; have h2 := HN.out; simp only [List.length_cons, List.length_nil]; exact Nat.le_trans (Nat.succ_le_succ (Nat.le_trans h1 h2)) (by decide)) (by have := HVF.out.2; omega)).mono ?_
    rintro e wq144 ⟨B8, d8, rfl, hol, hbv⟩
    have hr145 := hr140.below hbv
    have hr146 := hr141.below hbv
    have hr147 := hr142.below hbv
    have hr148 := hr143.below hbv
    have hr149 : RowD D wq144 B8 _ := RowD.of_own hol hol (fun k hd => Nat.lt_of_lt_of_le (HL.out k hd) (Keep.ahead hWx hKc).size)
    have hnl := hn.size
    have hn := hn.trans (hbv.mono hn.size)
    have hKc : Keep D (X3 w (midC m (some ⟨lb0, lo0, none⟩) c) (rqC r FA fc TA tc)) wq144 := hKc.step hbv
    have hK3 := hK3.step hbv
    have hbl := hbv
    (try go_wp2_with fail)
    refine hK.out _ _ (.inr ⟨HSC.out _ hKc, HB9.out _ hK3⟩) (fun _ => ?_)
    clear hK K
    (try simp only [List.getElem_toArray, List.getElem_cons_succ, List.getElem_cons_zero, Act.put, List.setIfInBounds_toArray, List.set_cons_zero, List.set_cons_succ])
    refine anyT_ready (rs := [9]) (by kernel_rfl) (by simp) ?_
    refine AllReadyT.cons rfl (fun K hK => ?_) AllReadyT.nil
    obtain ⟨_, ⟨r0, r1, r2, r3⟩, f0, f1, f2, f3⟩ := X3_facts HL.out hKc
    have hz2 : w.heap.size + 1 + 1 < wq144.heap.size := by have := keep_size hKc; omega
    have HKZ := Lib.hid (show Keep (Btw w (w3).drew) wq131 wq144 from Keep.of hn)
    have hsb : ((w3).drew).heap.size ≤ (wq139).heap.size := Nat.le_trans hk.size hnl
    have HO := Lib.hid (own_less (b' := ((w3).drew).heap.size) hol hsb)
    have HTT := Lib.hid hTT
    have HK2 := Lib.hid hk
    have HFT := Lib.hid hfit
    have HX1 := Lib.hid hX1
    have HWL := Lib.hid (show w.heap.size + 1 + 1 < ((w3).drew).heap.size from hwl)
    clear hfit hTT hk hKc hn hol hbl hrow hX1 hsb hcapv hnl hwl hK3 hr145 hr146 hr147 hr148 hr149
    go_simp
    refine hK.out _ _ (.inl (by rfl)) (fun _ => ?_)
    clear hK K
    (try simp only [List.getElem_toArray, List.getElem_cons_succ, List.getElem_cons_zero, Act.put, List.setIfInBounds_toArray, List.set_cons_zero, List.set_cons_succ])
    refine anyT_done (by kernel_rfl) ?_ _
    go_wp2
    exact bodyPost_ret (v := rsV ⟨ys, yr, l5 ++ vp, yb⟩ B8 d8) (by simp [results, Tryz.results71, go_sem, rsV, r0, r1, r2, r3]) rfl
     ((fin_own (x := ⟨ys, yr, l5 ++ vp, yb⟩) (F := behindP m r) (M := N + 2) (b := w.heap.size + 1 + 1) HL.out HX1.out (by omega) HWL.out HTT.out HK2.out HKZ.out HO.out (by rw [HBE.out, HLE.out]; rfl) (by have h := fit_append (l := [(acaoN, ov)] ++ vp) HFT.out (by have := HVF.out.2; rw [List.length_append]; simp; omega) (wide_append (wide_cons acaoN_size (Nat.le_trans HOV.out (by unfold maxLen; decide)) wide_nil) HVF.out.1); rw [← List.append_assoc, show yf ++ [(acaoN, ov)] = l5 from HLE.out.symm] at h; exact h) _ _ _ _).imp (Nat.le_refl _) fun _ _ _ h => doT_inl HAI.out h)
   ·skip
    go_simp
    have hbv : Below ((w3).drew).heap.size ((w3).drew) (((w3).drew).alloc (.cells #[.string ⟨#[65, 99, 99, 101, 115, 115, 45, 67, 111, 110, 116, 114, 111, 108, 45, 65, 108, 108, 111, 119, 45, 79, 114, 105, 103, 105, 110]⟩, .string ov] 59)) := (Below.refl _ _).alloc (Nat.le_refl _) _
    have hr151 : RowD D (((w3).drew).alloc (.cells #[.string ⟨#[65, 99, 99, 101, 115, 115, 45, 67, 111, 110, 116, 114, 111, 108, 45, 65, 108, 108, 111, 119, 45, 79, 114, 105, 103, 105, 110]⟩, .string ov] 59)) (some ⟨((w3).drew).heap.size, 0, none⟩) (flat [(⟨#[65, 99, 99, 101, 115, 115, 45, 67, 111, 110, 116, 114, 111, 108, 45, 65, 108, 108, 111, 119, 45, 79, 114, 105, 103, 105, 110]⟩, ov)]) := RowD.lit (fun k hd => Nat.lt_of_lt_of_le (HL.out k hd) (Keep.ahead hWx hKc).size)
    have hBc : Below (X3 w (midC m (some ⟨lb0, lo0, none⟩) c) (rqC r FA fc TA tc)).heap.size (X3 w (midC m (some ⟨lb0, lo0, none⟩) c) (rqC r FA fc TA tc)) (((w3).drew).alloc (.cells #[.string ⟨#[65, 99, 99, 101, 115, 115, 45, 67, 111, 110, 116, 114, 111, 108, 45, 65, 108, 108, 111, 119, 45, 79, 114, 105, 103, 105, 110]⟩, .string ov] 59)) := hBc.trans (hbv.mono hBc.size)
    have hKc : Keep D (X3 w (midC m (some ⟨lb0, lo0, none⟩) c) (rqC r FA fc TA tc)) (((w3).drew).alloc (.cells #[.string ⟨#[65, 99, 99, 101, 115, 115, 45, 67, 111, 110, 116, 114, 111, 108, 45, 65, 108, 108, 111, 119, 45, 79, 114, 105, 103, 105, 110]⟩, .string ov] 59)) := hKc.step hbv
    have hK3 := hK3.step hbv
    clear hbv
    skip
    refine hK.out _ _ (.inr ⟨HSC.out _ hKc, HB9.out _ hK3⟩) (fun _ => ?_)
    clear hK K
    (try simp only [List.getElem_toArray, List.getElem_cons_succ, List.getElem_cons_zero, Act.put, List.setIfInBounds_toArray, List.set_cons_zero, List.set_cons_succ])
    refine anyT_ready (rs := [2]) (by kernel_rfl) (by simp) ?_
    refine (AllReadyT.cons rfl (fun K hK => ?_) AllReadyT.nil)
    go_simp
    refine (HC.out _ (X3_up hBc)).mono ?_
    rintro e wq152 ⟨y, A1, c1, rfl, hrow, hfit, hTT, hk⟩
    obtain ⟨ys, yr, yf, yb⟩ := y
    unfold rsV
    dsimp only at hrow hfit ⊢
    have hr153 := hr151.keep hk
    have hX1 := X3_up hBc
    have hwl := X3_lt hBc
    have hKc := hKc.trans hk
    have hK3 := hK3.trans hk
    have hn : Below wq152.heap.size wq152 wq152 := Below.refl _ _
    clear hBc
    (try go_wp2_with fail)
    refine hK.out _ _ (.inr ⟨HSC.out _ hKc, HB9.out _ hK3⟩) (fun _ => ?_)
    clear hK K
    (try simp only [List.getElem_toArray, List.getElem_cons_succ, List.getElem_cons_zero, Act.put, List.setIfInBounds_toArray, List.set_cons_zero, List.set_cons_succ])
    refine anyT_ready (rs := [5]) (by kernel_rfl) (by simp) ?_
    refine (AllReadyT.cons rfl (fun K hK => ?_) AllReadyT.nil)
    go_simp
    have hLD := fun c d => laid_any ys yr yb A1 (some ⟨((w3).drew).heap.size, 0, none⟩) c d (yf) ([(⟨#[65, 99, 99, 101, 115, 115, 45, 67, 111, 110, 116, 114, 111, 108, 45, 65, 108, 108, 111, 119, 45, 79, 114, 105, 103, 105, 110]⟩, ov)]) _ hrow.row hr153.row (Nat.le_trans hfit.many (Nat.le_trans HN.out (by decide))) (by simp)
    obtain ⟨l5, hLe⟩ : ∃ x : List Fl, x = (yf) ++ ([(⟨#[65, 99, 99, 101, 115, 115, 45, 67, 111, 110, 116, 114, 111, 108, 45, 65, 108, 108, 111, 119, 45, 79, 114, 105, 103, 105, 110]⟩, ov)]) := ⟨_, rfl⟩
    rw [← hLe] at hLD
    have HLE := Lib.hid hLe
    clear hLe
    go_at_call 93
    refine (hLD _ _).mono ?_
    rintro e wq154 ⟨B5, d5, rfl, hol, hbv⟩
    clear hLD
    have hr155 := hr153.below hbv
    have hr156 := hrow.below hbv
    have hr157 : RowD D wq154 B5 _ := RowD.of_own hol hol (fun k hd => Nat.lt_of_lt_of_le (HL.out k hd) (Keep.ahead hWx hKc).size)
    have hnl := hn.size
    have hn := hn.trans (hbv.mono hn.size)
    have hKc : Keep D (X3 w (midC m (some ⟨lb0, lo0, none⟩) c) (rqC r FA fc TA tc)) wq154 := hKc.step hbv
    have hK3 := hK3.step hbv
    have hbl := hbv
    (try go_wp2_with fail)
    refine hK.out _ _ (.inr ⟨HSC.out _ hKc, HB9.out _ hK3⟩) (fun _ => ?_)
    clear hK K
    (try simp only [List.getElem_toArray, List.getElem_cons_succ, List.getElem_cons_zero, Act.put, List.setIfInBounds_toArray, List.set_cons_zero, List.set_cons_succ])
    refine anyT_ready (rs := [7]) (by kernel_rfl) (by simp) ?_
    refine (AllReadyT.cons rfl (fun K hK => ?_) AllReadyT.nil)
    go_simp
    go_at_call 111
    refine (HVR.out _ (Keep.ahead hWx hKc)).mono ?_
    rintro e wq158 ⟨VA, vc, rfl, hov, hbv⟩
    have hcapv := own_cap hov
    have hr159 := hr155.below hbv
    have hr160 := hr156.below hbv
    have hr161 := hr157.below hbv
    have hr162 : RowD D wq158 VA (flat vp) := RowD.of_own hov hov (fun k hd => Nat.lt_of_lt_of_le (HL.out k hd) (Keep.ahead hWx hKc).size)
    have hn := hn.trans (hbv.mono hn.size)
    have hKc : Keep D (X3 w (midC m (some ⟨lb0, lo0, none⟩) c) (rqC r FA fc TA tc)) wq158 := hKc.step hbv
    have hK3 := hK3.step hbv
    clear hov
    clear hbv
    (try go_wp2_with fail)
    refine hK.out _ _ (.inr ⟨HSC.out _ hKc, HB9.out _ hK3⟩) (fun _ => ?_)
    clear hK K
    (try simp only [List.getElem_toArray, List.getElem_cons_succ, List.getElem_cons_zero, Act.put, List.setIfInBounds_toArray, List.set_cons_zero, List.set_cons_succ])
    refine anyT_ready (rs := [8]) (by kernel_rfl) (by simp) ?_
    refine (AllReadyT.cons rfl (fun K hK => ?_) AllReadyT.nil)
    go_simp
    go_at_call 93
    refine (laid_any ys yr yb B5 _ _ _ _ _ _ hr161.row hr162.row (by rw [HLE.out, List.length_append]; have h1 := hfit.many; have h2 := HN.out; simp only [List.length_cons, List.length_nil]; exact Nat.le_trans (Nat.succ_le_succ (Nat.le_trans h1 h2)) (by decide)) (by have := HVF.out.2; omega)).mono ?_
    rintro e wq163 ⟨B8, d8, rfl, hol, hbv⟩
    have hr164 := hr159.below hbv
    have hr165 := hr160.below hbv
    have hr166 := hr161.below hbv
    have hr167 := hr162.below hbv
    have hr168 : RowD D wq163 B8 _ := RowD.of_own hol hol (fun k hd => Nat.lt_of_lt_of_le (HL.out k hd) (Keep.ahead hWx hKc).size)
    have hnl := hn.size
    have hn := hn.trans (hbv.mono hn.size)
    have hKc : Keep D (X3 w (midC m (some ⟨lb0, lo0, none⟩) c) (rqC r FA fc TA tc)) wq163 := hKc.step hbv
    have hK3 := hK3.step hbv
    have hbl := hbv
    (try go_wp2_with fail)
    refine hK.out _ _ (.inr ⟨HSC.out _ hKc, HB9.out _ hK3⟩) (fun _ => ?_)
    clear hK K
    (try simp only [List.getElem_toArray, List.getElem_cons_succ, List.getElem_cons_zero, Act.put, List.setIfInBounds_toArray, List.set_cons_zero, List.set_cons_succ])
    refine anyT_ready (rs := [9]) (by kernel_rfl) (by simp) ?_
    refine AllReadyT.cons rfl (fun K hK => ?_) AllReadyT.nil
    obtain ⟨_, ⟨r0, r1, r2, r3⟩, f0, f1, f2, f3⟩ := X3_facts HL.out hKc
    have hz2 : w.heap.size + 1 + 1 < wq163.heap.size := by have := keep_size hKc; omega
    have HKZ := Lib.hid (show Keep (Btw w (((w3).drew).alloc (.cells #[.string ⟨#[65, 99, 99, 101, 115, 115, 45, 67, 111, 110, 116, 114, 111, 108, 45, 65, 108, 108, 111, 119, 45, 79, 114, 105, 103, 105, 110]⟩, .string ov] 59))) wq152 wq163 from Keep.of hn)
    have hsb : ((((w3).drew).alloc (.cells #[.string ⟨#[65, 99, 99, 101, 115, 115, 45, 67, 111, 110, 116, 114, 111, 108, 45, 65, 108, 108, 111, 119, 45, 79, 114, 105, 103, 105, 110]⟩, .string ov] 59))).heap.size ≤ (wq158).heap.size := Nat.le_trans hk.size hnl
    have HO := Lib.hid (own_less (b' := ((((w3).drew).alloc (.cells #[.string ⟨#[65, 99, 99, 101, 115, 115, 45, 67, 111, 110, 116, 114, 111, 108, 45, 65, 108, 108, 111, 119, 45, 79, 114, 105, 103, 105, 110]⟩, .string ov] 59))).heap.size) hol hsb)
    have HTT := Lib.hid hTT
    have HK2 := Lib.hid hk
    have HFT := Lib.hid hfit
    have HX1 := Lib.hid hX1
    have HWL := Lib.hid (show w.heap.size + 1 + 1 < ((((w3).drew).alloc (.cells #[.string ⟨#[65, 99, 99, 101, 115, 115, 45, 67, 111, 110, 116, 114, 111, 108, 45, 65, 108, 108, 111, 119, 45, 79, 114, 105, 103, 105, 110]⟩, .string ov] 59))).heap.size from hwl)
    clear hfit hTT hk hKc hn hol hbl hrow hX1 hsb hcapv hnl hwl hK3 hr164 hr165 hr166 hr167 hr168
    go_simp
    refine hK.out _ _ (.inl (by rfl)) (fun _ => ?_)
    clear hK K
    (try simp only [List.getElem_toArray, List.getElem_cons_succ, List.getElem_cons_zero, Act.put, List.setIfInBounds_toArray, List.set_cons_zero, List.set_cons_succ])
    refine anyT_done (by kernel_rfl) ?_ _
    go_wp2
    exact bodyPost_ret (v := rsV ⟨ys, yr, l5 ++ vp, yb⟩ B8 d8) (by simp [results, Tryz.results71, go_sem, rsV, r0, r1, r2, r3]) rfl
     ((fin_own (x := ⟨ys, yr, l5 ++ vp, yb⟩) (F := behindP m r) (M := N + 2) (b := w.heap.size + 1 + 1) HL.out HX1.out (by omega) HWL.out HTT.out HK2.out HKZ.out HO.out (by rw [HBE.out, HLE.out]; rfl) (by have h := fit_append (l := [(acaoN, ov)] ++ vp) HFT.out (by have := HVF.out.2; rw [List.length_append]; simp; omega) (wide_append (wide_cons acaoN_size (Nat.le_trans HOV.out (by unfold maxLen; decide)) wide_nil) HVF.out.1); rw [← List.append_assoc, show yf ++ [(acaoN, ov)] = l5 from HLE.out.symm] at h; exact h) _ _ _ _).imp (Nat.le_refl _) fun _ _ _ h => doT_inl HAI.out h)
end Go.Proofs.YtbnafbdhomdcoaaGreatDoor
