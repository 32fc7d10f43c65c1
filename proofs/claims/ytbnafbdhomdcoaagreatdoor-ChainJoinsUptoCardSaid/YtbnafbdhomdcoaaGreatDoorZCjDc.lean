/-
 CjDc, without what this claim does not reach.
-/
import Derived.Test.YtbnafbdhomdcoaaGreatDoorZm26
import Derived.Test.YtbnafbdhomdcoaaGreatDoorZm27
namespace Go.Proofs.YtbnafbdhomdcoaaGreatDoor
open Go.RowKit Go.Shelf Go.Lib
theorem mapT_two {q : Rq} {F G : Rs → Rs} {T : Ans} {w w' : World} {x : Rs} {A : Option Addr} {c : Nat} (h : mapT q G (fun q => mapT q F T) w x A c w') : mapT q (fun y => G (F y)) T w x A c w' := by
 obtain ⟨w1, y, A1, c1, w2, b, ⟨v1, z, B1, d1, v2, b2, t, e, k, o⟩, e2, k2, o2⟩ := h
 refine ⟨v1, z, B1, d1, v2, b.trans (b2.mono b.size), t, by rw [e2, e], Keep.btw' b b2 k k2, ?_⟩
 rcases o2 with o2 | ⟨o2, o3, o4⟩
 ·exact .inl o2
 ·subst o2 o3 o4
  rcases o with o | o
  ·exact .inl ((o.keep k2 (fun k hk => hk.2)).less b.size)
  ·exact .inr o
theorem behind1 {m : Mid} {r : Rq} (y : Rs) (h : m.kind = 1) : behindP m r y = { y with fields := y.fields ++ [(m.name, m.value)] } := by
 unfold behindP
 rw [if_pos h]
theorem behind2 {m : Mid} {r : Rq} (y : Rs) (h : m.kind = 2) : behindP m r y = { y with fields := removeL y.fields m.name ++ [(m.name, m.value)] } := by
 unfold behindP
 rw [if_neg (by omega), if_pos h]
theorem below_dr {B : Nat} {w w' : World} (h : Below B w w') : Below B w w'.drew := ⟨h.os, h.tape, h.output, h.size, h.block⟩
theorem rowD_field {D : Nat → Prop} {W w' : World} {a b : ByteArray} (hD : ∀ k, D k → k < W.heap.size) (hk : Keep D (W.alloc (.cells #[.string a, .string b] 59)) w') : Row w' (some ⟨W.heap.size, 0, none⟩) (flat [(a, b)]) := by
 have h : RowD D (W.alloc (.cells #[.string a, .string b] 59)) (some ⟨W.heap.size, 0, none⟩) (flat [(a, b)]) := fun hl => by
  obtain ⟨b0, off, e, hb, hc⟩ := row_field W a b rfl hl
  injection e with e
  injection e with e e2
  subst e
  subst e2
  exact ⟨_, _, rfl, hb, fun hd => by have := hD _ hd; omega, hc⟩
 exact (h.keep hk).row
theorem fit_more {N : Nat} {y : Rs} {m : Mid} (h : FitS N y) (hm : FitM m) : FitS (N + 2) { y with fields := y.fields ++ [(m.name, m.value)] } :=
 ⟨by show (y.fields ++ [(m.name, m.value)]).length ≤ _; have := h.many; rw [List.length_append]; simp; omega, wide_append h.wide (wide_cons hm.nameL hm.valueL wide_nil)⟩
set_option maxRecDepth 20000 in
set_option maxHeartbeats 4000000 in
theorem add_any (D : Nat → Prop) (Pre : World → Prop) (n0 N : Nat) (T : Ans) (f : Value) (w : World) (m : Mid) (r : Rq) (A : Option Addr) (c : Nat) (FA : Option Addr) (fc : Nat) (TA : Option Addr) (tc : Nat)
  (hE : Env D Pre w) (hP : Pre w) (hX : Nx D Pre n0 N w f T) (hn0 : n0 ≤ w.heap.size) (hN : N ≤ 1099511627776) (hF : RowD D w FA (flat r.fields)) (hT : RowD D w TA (flat r.trailers)) (hm : FitM m) (hr : FitQ r) :
  Calls Tryz.prog 56 #[midV m A c, rqV r FA fc TA tc, f] w (GivesX D n0 (N + 2) (mapT r (fun y => { y with fields := y.fields ++ [(m.name, m.value)] }) T) w) := by
 obtain ⟨g, lb, rfl, he, hc⟩ := hX
 have HC := Lib.hid (nx_call fc tc hE hP hc hF hT hr)
 have HL := Lib.hid hE.low
 have HN0 := Lib.hid hn0
 have HM := Lib.hid hm
 have HN := Lib.hid hN
 have HSC := Lib.hid (fun (W : World) (h : Keep D (X3 w (midC m A c) (rqC r FA fc TA tc)) W) => (⟨(X3_facts hE.low h).1.1, (X3_facts hE.low h).1.2⟩ : (W.cell? ⟨w.heap.size, 0, none⟩ = some (.int .i64 m.kind) ∧ W.cell? ⟨w.heap.size, 1, none⟩ = some (.string m.name) ∧ W.cell? ⟨w.heap.size, 2, none⟩ = some (.string m.value) ∧ W.cell? ⟨w.heap.size, 3, none⟩ = some (.slice A m.list.length c) ∧ W.cell? ⟨w.heap.size, 4, none⟩ = some (.int .i64 m.n)) ∧
   (W.cell? ⟨w.heap.size + 1, 0, none⟩ = some (.string r.method) ∧ W.cell? ⟨w.heap.size + 1, 1, none⟩ = some (.string r.target) ∧ W.cell? ⟨w.heap.size + 1, 2, none⟩ = some (.int .i64 r.major) ∧ W.cell? ⟨w.heap.size + 1, 3, none⟩ = some (.int .i64 r.minor) ∧ W.cell? ⟨w.heap.size + 1, 4, none⟩ = some (.slice FA r.fields.length fc) ∧ W.cell? ⟨w.heap.size + 1, 5, none⟩ = some (.string r.body) ∧ W.cell? ⟨w.heap.size + 1, 6, none⟩ = some (.slice TA r.trailers.length tc))))
 have HDR := Lib.hid (below_dr (Below.refl (X3 w (midC m A c) (rqC r FA fc TA tc)).heap.size (X3 w (midC m A c) (rqC r FA fc TA tc))))
 have hS0 := HSC.out _ (Keep.of HDR.out)
 clear hc hE hP hn0 hN hF hT hm hr
 unfold midV rqV
 go_enter Tryz.func56, Tryz.ntmps56
 go_wp2_with fail
 rw [X3_eq]
 refine region_T (t := 10) (S := fun W => (W.cell? ⟨w.heap.size, 0, none⟩ = some (.int .i64 m.kind) ∧ W.cell? ⟨w.heap.size, 1, none⟩ = some (.string m.name) ∧ W.cell? ⟨w.heap.size, 2, none⟩ = some (.string m.value) ∧ W.cell? ⟨w.heap.size, 3, none⟩ = some (.slice A m.list.length c) ∧ W.cell? ⟨w.heap.size, 4, none⟩ = some (.int .i64 m.n)) ∧
   (W.cell? ⟨w.heap.size + 1, 0, none⟩ = some (.string r.method) ∧ W.cell? ⟨w.heap.size + 1, 1, none⟩ = some (.string r.target) ∧ W.cell? ⟨w.heap.size + 1, 2, none⟩ = some (.int .i64 r.major) ∧ W.cell? ⟨w.heap.size + 1, 3, none⟩ = some (.int .i64 r.minor) ∧ W.cell? ⟨w.heap.size + 1, 4, none⟩ = some (.slice FA r.fields.length fc) ∧ W.cell? ⟨w.heap.size + 1, 5, none⟩ = some (.string r.body) ∧ W.cell? ⟨w.heap.size + 1, 6, none⟩ = some (.slice TA r.trailers.length tc))) (by kernel_rfl) hS0 (fun hHeld => ?_)
 refine' anyT_take (i := 0) (v := _) rfl (by kernel_rfl) (by kernel_rfl) (by kernel_rfl) (by kernel_rfl) (by rfl) (fun _ _ _ h => h) (Or.inl ⟨by rfl, ?h1y⟩) hHeld ?h1r
 case h1y => (intro w hSw; (try dsimp only at hSw); (try simp only [List.getElem_toArray, List.getElem_cons_zero]); go_simp; try (with_reducible rfl))
 (try simp only [List.getElem_toArray, List.getElem_cons_zero, Act.put, List.setIfInBounds_toArray, List.set_cons_zero, List.set_cons_succ])
 refine' anyT_take (i := 1) (v := _) rfl (by kernel_rfl) (by kernel_rfl) (by kernel_rfl) (by kernel_rfl) (by rfl) (fun _ _ _ h => h) (Or.inl ⟨by rfl, ?h2y⟩) hHeld ?h2r
 case h2y => (intro w hSw; (try dsimp only at hSw); obtain ⟨⟨s0, s1, s2, s3, s4⟩, t0, t1, t2, t3, t4, t5, t6⟩ := hSw; (try simp only [List.getElem_toArray, List.getElem_cons_succ, List.getElem_cons_zero]); go_simp; try (with_reducible rfl))
 (try simp only [List.getElem_toArray, List.getElem_cons_succ, List.getElem_cons_zero, Act.put, List.setIfInBounds_toArray, List.set_cons_zero, List.set_cons_succ])
 refine' anyT_take (i := 3) (v := _) rfl (by kernel_rfl) (by kernel_rfl) (by kernel_rfl) (by kernel_rfl) (by rfl) (fun _ _ _ h => h) (Or.inl ⟨by rfl, ?h3y⟩) hHeld ?h3r
 case h3y => (intro w hSw; (try dsimp only at hSw); (try simp only [List.getElem_toArray, List.getElem_cons_succ, List.getElem_cons_zero]); go_simp; try (with_reducible rfl))
 (try simp only [List.getElem_toArray, List.getElem_cons_succ, List.getElem_cons_zero, Act.put, List.setIfInBounds_toArray, List.set_cons_zero, List.set_cons_succ])
 refine' anyT_take (i := 4) (v := _) rfl (by kernel_rfl) (by kernel_rfl) (by kernel_rfl) (by kernel_rfl) (by rfl) (fun _ _ _ h => h) (Or.inl ⟨by rfl, ?h4y⟩) hHeld ?h4r
 case h4y => (intro w hSw; (try dsimp only at hSw); obtain ⟨⟨s0, s1, s2, s3, s4⟩, t0, t1, t2, t3, t4, t5, t6⟩ := hSw; (try simp only [List.getElem_toArray, List.getElem_cons_succ, List.getElem_cons_zero]); go_simp; try (with_reducible rfl))
 (try simp only [List.getElem_toArray, List.getElem_cons_succ, List.getElem_cons_zero, Act.put, List.setIfInBounds_toArray, List.set_cons_zero, List.set_cons_succ])
 refine' anyT_take (i := 5) (v := _) rfl (by kernel_rfl) (by kernel_rfl) (by kernel_rfl) (by kernel_rfl) (by rfl) (fun _ _ _ h => h) (Or.inl ⟨by rfl, ?h5y⟩) hHeld ?h5r
 case h5y => (intro w hSw; (try dsimp only at hSw); (try simp only [List.getElem_toArray, List.getElem_cons_succ, List.getElem_cons_zero]); go_simp; try (with_reducible rfl))
 (try simp only [List.getElem_toArray, List.getElem_cons_succ, List.getElem_cons_zero, Act.put, List.setIfInBounds_toArray, List.set_cons_zero, List.set_cons_succ])
 refine' anyT_take (i := 6) (v := _) rfl (by kernel_rfl) (by kernel_rfl) (by kernel_rfl) (by kernel_rfl) (by rfl) (fun _ _ _ h => h) (Or.inl ⟨by rfl, ?h6y⟩) hHeld ?h6r
 case h6y => (intro w hSw; (try dsimp only at hSw); obtain ⟨⟨s0, s1, s2, s3, s4⟩, t0, t1, t2, t3, t4, t5, t6⟩ := hSw; (try simp only [List.getElem_toArray, List.getElem_cons_succ, List.getElem_cons_zero]); go_simp; try (with_reducible rfl))
 (try simp only [List.getElem_toArray, List.getElem_cons_succ, List.getElem_cons_zero, Act.put, List.setIfInBounds_toArray, List.set_cons_zero, List.set_cons_succ])
 refine' anyT_take (i := 7) (v := _) rfl (by kernel_rfl) (by kernel_rfl) (by kernel_rfl) (by kernel_rfl) (by rfl) (fun _ _ _ h => h) (Or.inl ⟨by rfl, ?h7y⟩) hHeld ?h7r
 case h7y => (intro w hSw; (try dsimp only at hSw); (try simp only [List.getElem_toArray, List.getElem_cons_succ, List.getElem_cons_zero]); go_simp; try (with_reducible rfl))
 (try simp only [List.getElem_toArray, List.getElem_cons_succ, List.getElem_cons_zero, Act.put, List.setIfInBounds_toArray, List.set_cons_zero, List.set_cons_succ])
 refine anyT_ready (rs := [2, 8]) (by kernel_rfl) (by simp) ?_
 refine (AllReadyT.cons rfl (fun K hK => ?_) (AllReadyT.cons rfl (fun K hK => ?_) AllReadyT.nil))
 ·have hX1 : Below w.heap.size w (X3 w (midC m A c) (rqC r FA fc TA tc)).drew := below_dr (X3_below w (midC m A c) (rqC r FA fc TA tc))
  go_simp
  refine (HC.out _ hX1).mono ?_
  rintro e w2 ⟨y, A1, c1, rfl, hrow, hfit, hTT, hk⟩
  obtain ⟨ys, yr, yf, yb⟩ := y
  have hk0 : Keep D (X3 w (midC m A c) (rqC r FA fc TA tc)) w2 := Keep.ahead HDR.out hk
  unfold rsV
  dsimp only at hrow hfit ⊢
  (try go_wp2_with fail)
  refine hK.out _ _ (.inr (HSC.out _ hk0)) (fun _ => ?_)
  clear hK K
  (try simp only [List.getElem_toArray, List.getElem_cons_succ, List.getElem_cons_zero, Act.put, List.setIfInBounds_toArray, List.set_cons_zero, List.set_cons_succ])
  refine anyT_ready (rs := [8]) (by kernel_rfl) (by simp) ?_
  refine AllReadyT.cons rfl (fun K hK => ?_) AllReadyT.nil
  have hb2 : Below w2.heap.size w2 (w2.alloc (.cells #[.string m.name, .string m.value] 59)) := (Below.refl _ _).alloc (Nat.le_refl _) _
  go_simp
  refine hK.out _ _ (.inr (HSC.out _ (hk0.step hb2))) (fun _ => ?_)
  clear hK K
  (try simp only [List.getElem_toArray, List.getElem_cons_succ, List.getElem_cons_zero, Act.put, List.setIfInBounds_toArray, List.set_cons_zero, List.set_cons_succ])
  refine anyT_ready (rs := [9]) (by kernel_rfl) (by simp) ?_
  refine AllReadyT.cons rfl (fun K hK => ?_) AllReadyT.nil
  go_simp
  go_at_call 93
  refine (laid_any ys yr yb A1 (some ⟨w2.heap.size, 0, none⟩) c1 1 yf [(m.name, m.value)] _ (hrow.row.below hb2) (row_field w2 m.name m.value rfl) (Nat.le_trans hfit.many (Nat.le_trans HN.out (by decide))) (by simp)).mono ?_
  rintro e w3 ⟨A3, c3, rfl, ho, hb⟩
  have hk3 : Keep D (X3 w (midC m A c) (rqC r FA fc TA tc)) w3 := (hk0.step hb2).step hb
  have HKZ := Lib.hid (show Keep (Btw w (X3 w (midC m A c) (rqC r FA fc TA tc)).drew) w2 w3 from Keep.of (hb2.trans (hb.mono hb2.size)))
  have hk4 := hk3
  (try go_wp2_with fail)
  refine hK.out _ _ (.inr (HSC.out _ hk3)) (fun _ => ?_)
  clear hK K
  (try simp only [List.getElem_toArray, List.getElem_cons_succ, List.getElem_cons_zero, Act.put, List.setIfInBounds_toArray, List.set_cons_zero, List.set_cons_succ])
  refine anyT_ready (rs := [10]) (by kernel_rfl) (by simp) ?_
  refine AllReadyT.cons rfl (fun K hK => ?_) AllReadyT.nil
  obtain ⟨_, ⟨r0, r1, r2, r3⟩, f0, f1, f2, f3⟩ := X3_facts HL.out hk4
  have hz2 : w.heap.size + 1 + 1 < w3.heap.size := by have := keep_size hk4; omega
  have HO := Lib.hid (own_less (b' := (X3 w (midC m A c) (rqC r FA fc TA tc)).drew.heap.size) ho (Nat.le_trans hk.size hb2.size))
  have HFT := Lib.hid (fit_more (m := m) hfit HM.out)
  have HTT := Lib.hid hTT
  have HK2 := Lib.hid hk
  clear hfit hTT hk hk0 hk3 hk4 ho hb hrow
  go_simp
  refine hK.out _ _ (.inl (by rfl)) (fun _ => ?_)
  clear hK K
  (try simp only [List.getElem_toArray, List.getElem_cons_succ, List.getElem_cons_zero, Act.put, List.setIfInBounds_toArray, List.set_cons_zero, List.set_cons_succ])
  refine anyT_done (by kernel_rfl) ?_ _
  go_wp2
  exact bodyPost_ret (v := rsV ⟨ys, yr, yf ++ [(m.name, m.value)], yb⟩ A3 c3) (by simp [results, Tryz.results56, go_sem, rsV, r0, r1, r2, r3]) rfl
   (fin_own (F := fun y => { y with fields := y.fields ++ [(m.name, m.value)] }) (b := w.heap.size + 1 + 1) HL.out hX1 (by omega) (by show _ < (X3 w (midC m A c) (rqC r FA fc TA tc)).heap.size; rw [X3_size]; omega) HTT.out HK2.out HKZ.out HO.out rfl HFT.out _ _ _ _)
 ·have hb1 : Below (X3 w (midC m A c) (rqC r FA fc TA tc)).heap.size (X3 w (midC m A c) (rqC r FA fc TA tc)) ((X3 w (midC m A c) (rqC r FA fc TA tc)).drew.alloc (.cells #[.string m.name, .string m.value] 59)) := HDR.out.alloc HDR.out.size _
  have hX1 : Below w.heap.size w ((X3 w (midC m A c) (rqC r FA fc TA tc)).drew.alloc (.cells #[.string m.name, .string m.value] 59)) := (X3_below w (midC m A c) (rqC r FA fc TA tc)).trans (hb1.mono (X3_below w (midC m A c) (rqC r FA fc TA tc)).size)
  have hDW : ∀ k, D k → k < (X3 w (midC m A c) (rqC r FA fc TA tc)).drew.heap.size := fun k hd => Nat.lt_of_lt_of_le (HL.out k hd) (X3_below w (midC m A c) (rqC r FA fc TA tc)).size
  go_simp
  refine hK.out _ _ (.inr (HSC.out _ (Keep.of hb1))) (fun _ => ?_)
  clear hK K
  (try simp only [List.getElem_toArray, List.getElem_cons_succ, List.getElem_cons_zero, Act.put, List.setIfInBounds_toArray, List.set_cons_zero, List.set_cons_succ])
  refine anyT_ready (rs := [2]) (by kernel_rfl) (by simp) ?_
  refine AllReadyT.cons rfl (fun K hK => ?_) AllReadyT.nil
  go_simp
  refine (HC.out _ hX1).mono ?_
  rintro e w2 ⟨y, A1, c1, rfl, hrow, hfit, hTT, hk⟩
  obtain ⟨ys, yr, yf, yb⟩ := y
  have hk0 : Keep D (X3 w (midC m A c) (rqC r FA fc TA tc)) w2 := Keep.ahead hb1 hk
  unfold rsV
  dsimp only at hrow hfit ⊢
  (try go_wp2_with fail)
  refine hK.out _ _ (.inr (HSC.out _ hk0)) (fun _ => ?_)
  clear hK K
  (try simp only [List.getElem_toArray, List.getElem_cons_succ, List.getElem_cons_zero, Act.put, List.setIfInBounds_toArray, List.set_cons_zero, List.set_cons_succ])
  refine anyT_ready (rs := [9]) (by kernel_rfl) (by simp) ?_
  refine AllReadyT.cons rfl (fun K hK => ?_) AllReadyT.nil
  go_simp
  go_at_call 93
  refine (laid_any ys yr yb A1 (some ⟨(X3 w (midC m A c) (rqC r FA fc TA tc)).drew.heap.size, 0, none⟩) c1 1 yf [(m.name, m.value)] _ hrow.row (rowD_field hDW hk) (Nat.le_trans hfit.many (Nat.le_trans HN.out (by decide))) (by simp)).mono ?_
  rintro e w3 ⟨A3, c3, rfl, ho, hb⟩
  have hk3 : Keep D (X3 w (midC m A c) (rqC r FA fc TA tc)) w3 := hk0.step hb
  have HKZ := Lib.hid (show Keep (Btw w ((X3 w (midC m A c) (rqC r FA fc TA tc)).drew.alloc (.cells #[.string m.name, .string m.value] 59))) w2 w3 from Keep.of hb)
  have hk4 := hk3
  (try go_wp2_with fail)
  refine hK.out _ _ (.inr (HSC.out _ hk3)) (fun _ => ?_)
  clear hK K
  (try simp only [List.getElem_toArray, List.getElem_cons_succ, List.getElem_cons_zero, Act.put, List.setIfInBounds_toArray, List.set_cons_zero, List.set_cons_succ])
  refine anyT_ready (rs := [10]) (by kernel_rfl) (by simp) ?_
  refine AllReadyT.cons rfl (fun K hK => ?_) AllReadyT.nil
  obtain ⟨_, ⟨r0, r1, r2, r3⟩, f0, f1, f2, f3⟩ := X3_facts HL.out hk4
  have hz2 : w.heap.size + 1 + 1 < w3.heap.size := by have := keep_size hk4; omega
  have HO := Lib.hid (own_less (b' := ((X3 w (midC m A c) (rqC r FA fc TA tc)).drew.alloc (.cells #[.string m.name, .string m.value] 59)).heap.size) ho hk.size)
  have HFT := Lib.hid (fit_more (m := m) hfit HM.out)
  have HTT := Lib.hid hTT
  have HK2 := Lib.hid hk
  clear hfit hTT hk hk0 hk3 hk4 ho hb hrow
  go_simp
  refine hK.out _ _ (.inl (by rfl)) (fun _ => ?_)
  clear hK K
  (try simp only [List.getElem_toArray, List.getElem_cons_succ, List.getElem_cons_zero, Act.put, List.setIfInBounds_toArray, List.set_cons_zero, List.set_cons_succ])
  refine anyT_done (by kernel_rfl) ?_ _
  go_wp2
  exact bodyPost_ret (v := rsV ⟨ys, yr, yf ++ [(m.name, m.value)], yb⟩ A3 c3) (by simp [results, Tryz.results56, go_sem, rsV, r0, r1, r2, r3]) rfl
   (fin_own (F := fun y => { y with fields := y.fields ++ [(m.name, m.value)] }) (b := w.heap.size + 1 + 1) HL.out hX1 (by omega) (by show _ < ((X3 w (midC m A c) (rqC r FA fc TA tc)).drew.alloc (.cells #[.string m.name, .string m.value] 59)).heap.size; rw [World.size_alloc]; show _ < (X3 w (midC m A c) (rqC r FA fc TA tc)).heap.size + 1; rw [X3_size]; omega) HTT.out HK2.out HKZ.out HO.out rfl HFT.out _ _ _ _)
set_option maxRecDepth 20000 in
set_option maxHeartbeats 4000000 in
theorem set_any (D : Nat → Prop) (Pre : World → Prop) (n0 N : Nat) (T : Ans) (f : Value) (w : World) (m : Mid) (r : Rq) (A : Option Addr) (c : Nat) (FA : Option Addr) (fc : Nat) (TA : Option Addr) (tc : Nat)
  (hE : Env D Pre w) (hP : Pre w) (hX : Nx D Pre n0 N w f T) (hn0 : n0 ≤ w.heap.size) (hN : N ≤ 1099511627776) (hF : RowD D w FA (flat r.fields)) (hT : RowD D w TA (flat r.trailers)) (hm : FitM m) (hr : FitQ r) :
  Calls Tryz.prog 57 #[midV m A c, rqV r FA fc TA tc, f] w (GivesX D n0 (N + 2) (mapT r (fun y => { y with fields := removeL y.fields m.name ++ [(m.name, m.value)] }) T) w) := by
 obtain ⟨g, lb, rfl, he, hc⟩ := hX
 have hX : Nx D Pre n0 N w (.func (.func g) #[] lb) T := ⟨g, lb, rfl, he, hc⟩
 have HC := Lib.hid (fun (W : World) (h : Below w.heap.size w W) => drop_any D Pre n0 N T (.func (.func g) #[] lb) W m r A c FA fc TA tc (hE.later (Keep.of h)) (hE.stays _ _ (Keep.refl _ _) hP h) (hX.later (Keep.of h)) hN (hF.below h) (hT.below h) hm hr)
 have HL := Lib.hid hE.low
 have HN0 := Lib.hid hn0
 have HM := Lib.hid hm
 have HN := Lib.hid hN
 have HSC := Lib.hid (fun (W : World) (h : Keep D (X3 w (midC m A c) (rqC r FA fc TA tc)) W) => (⟨(X3_facts hE.low h).1.1, (X3_facts hE.low h).1.2⟩ : (W.cell? ⟨w.heap.size, 0, none⟩ = some (.int .i64 m.kind) ∧ W.cell? ⟨w.heap.size, 1, none⟩ = some (.string m.name) ∧ W.cell? ⟨w.heap.size, 2, none⟩ = some (.string m.value) ∧ W.cell? ⟨w.heap.size, 3, none⟩ = some (.slice A m.list.length c) ∧ W.cell? ⟨w.heap.size, 4, none⟩ = some (.int .i64 m.n)) ∧
   (W.cell? ⟨w.heap.size + 1, 0, none⟩ = some (.string r.method) ∧ W.cell? ⟨w.heap.size + 1, 1, none⟩ = some (.string r.target) ∧ W.cell? ⟨w.heap.size + 1, 2, none⟩ = some (.int .i64 r.major) ∧ W.cell? ⟨w.heap.size + 1, 3, none⟩ = some (.int .i64 r.minor) ∧ W.cell? ⟨w.heap.size + 1, 4, none⟩ = some (.slice FA r.fields.length fc) ∧ W.cell? ⟨w.heap.size + 1, 5, none⟩ = some (.string r.body) ∧ W.cell? ⟨w.heap.size + 1, 6, none⟩ = some (.slice TA r.trailers.length tc))))
 have HDR := Lib.hid (below_dr (Below.refl (X3 w (midC m A c) (rqC r FA fc TA tc)).heap.size (X3 w (midC m A c) (rqC r FA fc TA tc))))
 have hS0 := HSC.out _ (Keep.of HDR.out)
 clear hc hE hP hn0 hN hF hT hm hr hX
 unfold midV rqV
 go_enter Tryz.func57, Tryz.ntmps57
 go_wp2_with fail
 rw [X3_eq]
 refine region_T (t := 11) (S := fun W => (W.cell? ⟨w.heap.size, 0, none⟩ = some (.int .i64 m.kind) ∧ W.cell? ⟨w.heap.size, 1, none⟩ = some (.string m.name) ∧ W.cell? ⟨w.heap.size, 2, none⟩ = some (.string m.value) ∧ W.cell? ⟨w.heap.size, 3, none⟩ = some (.slice A m.list.length c) ∧ W.cell? ⟨w.heap.size, 4, none⟩ = some (.int .i64 m.n)) ∧
   (W.cell? ⟨w.heap.size + 1, 0, none⟩ = some (.string r.method) ∧ W.cell? ⟨w.heap.size + 1, 1, none⟩ = some (.string r.target) ∧ W.cell? ⟨w.heap.size + 1, 2, none⟩ = some (.int .i64 r.major) ∧ W.cell? ⟨w.heap.size + 1, 3, none⟩ = some (.int .i64 r.minor) ∧ W.cell? ⟨w.heap.size + 1, 4, none⟩ = some (.slice FA r.fields.length fc) ∧ W.cell? ⟨w.heap.size + 1, 5, none⟩ = some (.string r.body) ∧ W.cell? ⟨w.heap.size + 1, 6, none⟩ = some (.slice TA r.trailers.length tc))) (by kernel_rfl) hS0 (fun hHeld => ?_)
 refine' anyT_take (i := 0) (v := _) rfl (by kernel_rfl) (by kernel_rfl) (by kernel_rfl) (by kernel_rfl) (by rfl) (fun _ _ _ h => h) (Or.inl ⟨by rfl, ?h8y⟩) hHeld ?h8r
 case h8y => (intro w hSw; (try dsimp only at hSw); obtain ⟨⟨s0, s1, s2, s3, s4⟩, t0, t1, t2, t3, t4, t5, t6⟩ := hSw; (try simp only [List.getElem_toArray, List.getElem_cons_zero]); go_simp; try (with_reducible rfl))
 (try simp only [List.getElem_toArray, List.getElem_cons_zero, Act.put, List.setIfInBounds_toArray, List.set_cons_zero, List.set_cons_succ])
 refine' anyT_take (i := 1) (v := _) rfl (by kernel_rfl) (by kernel_rfl) (by kernel_rfl) (by kernel_rfl) (by rfl) (fun _ _ _ h => h) (Or.inl ⟨by rfl, ?h9y⟩) hHeld ?h9r
 case h9y => (intro w hSw; (try dsimp only at hSw); obtain ⟨⟨s0, s1, s2, s3, s4⟩, t0, t1, t2, t3, t4, t5, t6⟩ := hSw; (try simp only [List.getElem_toArray, List.getElem_cons_succ, List.getElem_cons_zero]); go_simp; try (with_reducible rfl))
 (try simp only [List.getElem_toArray, List.getElem_cons_succ, List.getElem_cons_zero, Act.put, List.setIfInBounds_toArray, List.set_cons_zero, List.set_cons_succ])
 refine' anyT_take (i := 2) (v := _) rfl (by kernel_rfl) (by kernel_rfl) (by kernel_rfl) (by kernel_rfl) (by rfl) (fun _ _ _ h => h) (Or.inl ⟨by rfl, ?h10y⟩) hHeld ?h10r
 case h10y => (intro w hSw; (try dsimp only at hSw); (try simp only [List.getElem_toArray, List.getElem_cons_succ, List.getElem_cons_zero]); go_simp; try (with_reducible rfl))
 (try simp only [List.getElem_toArray, List.getElem_cons_succ, List.getElem_cons_zero, Act.put, List.setIfInBounds_toArray, List.set_cons_zero, List.set_cons_succ])
 refine' anyT_take (i := 4) (v := _) rfl (by kernel_rfl) (by kernel_rfl) (by kernel_rfl) (by kernel_rfl) (by rfl) (fun _ _ _ h => h) (Or.inl ⟨by rfl, ?h11y⟩) hHeld ?h11r
 case h11y => (intro w hSw; (try dsimp only at hSw); (try simp only [List.getElem_toArray, List.getElem_cons_succ, List.getElem_cons_zero]); go_simp; try (with_reducible rfl))
 (try simp only [List.getElem_toArray, List.getElem_cons_succ, List.getElem_cons_zero, Act.put, List.setIfInBounds_toArray, List.set_cons_zero, List.set_cons_succ])
 refine' anyT_take (i := 5) (v := _) rfl (by kernel_rfl) (by kernel_rfl) (by kernel_rfl) (by kernel_rfl) (by rfl) (fun _ _ _ h => h) (Or.inl ⟨by rfl, ?h12y⟩) hHeld ?h12r
 case h12y => (intro w hSw; (try dsimp only at hSw); obtain ⟨⟨s0, s1, s2, s3, s4⟩, t0, t1, t2, t3, t4, t5, t6⟩ := hSw; (try simp only [List.getElem_toArray, List.getElem_cons_succ, List.getElem_cons_zero]); go_simp; try (with_reducible rfl))
 (try simp only [List.getElem_toArray, List.getElem_cons_succ, List.getElem_cons_zero, Act.put, List.setIfInBounds_toArray, List.set_cons_zero, List.set_cons_succ])
 refine' anyT_take (i := 6) (v := _) rfl (by kernel_rfl) (by kernel_rfl) (by kernel_rfl) (by kernel_rfl) (by rfl) (fun _ _ _ h => h) (Or.inl ⟨by rfl, ?h13y⟩) hHeld ?h13r
 case h13y => (intro w hSw; (try dsimp only at hSw); (try simp only [List.getElem_toArray, List.getElem_cons_succ, List.getElem_cons_zero]); go_simp; try (with_reducible rfl))
 (try simp only [List.getElem_toArray, List.getElem_cons_succ, List.getElem_cons_zero, Act.put, List.setIfInBounds_toArray, List.set_cons_zero, List.set_cons_succ])
 refine' anyT_take (i := 7) (v := _) rfl (by kernel_rfl) (by kernel_rfl) (by kernel_rfl) (by kernel_rfl) (by rfl) (fun _ _ _ h => h) (Or.inl ⟨by rfl, ?h14y⟩) hHeld ?h14r
 case h14y => (intro w hSw; (try dsimp only at hSw); obtain ⟨⟨s0, s1, s2, s3, s4⟩, t0, t1, t2, t3, t4, t5, t6⟩ := hSw; (try simp only [List.getElem_toArray, List.getElem_cons_succ, List.getElem_cons_zero]); go_simp; try (with_reducible rfl))
 (try simp only [List.getElem_toArray, List.getElem_cons_succ, List.getElem_cons_zero, Act.put, List.setIfInBounds_toArray, List.set_cons_zero, List.set_cons_succ])
 refine' anyT_take (i := 8) (v := _) rfl (by kernel_rfl) (by kernel_rfl) (by kernel_rfl) (by kernel_rfl) (by rfl) (fun _ _ _ h => h) (Or.inl ⟨by rfl, ?h15y⟩) hHeld ?h15r
 case h15y => (intro w hSw; (try dsimp only at hSw); (try simp only [List.getElem_toArray, List.getElem_cons_succ, List.getElem_cons_zero]); go_simp; try (with_reducible rfl))
 (try simp only [List.getElem_toArray, List.getElem_cons_succ, List.getElem_cons_zero, Act.put, List.setIfInBounds_toArray, List.set_cons_zero, List.set_cons_succ])
 refine anyT_ready (rs := [3, 9]) (by kernel_rfl) (by simp) ?_
 refine (AllReadyT.cons rfl (fun K hK => ?_) (AllReadyT.cons rfl (fun K hK => ?_) AllReadyT.nil))
 ·have hX1 : Below w.heap.size w (X3 w (midC m A c) (rqC r FA fc TA tc)).drew := below_dr (X3_below w (midC m A c) (rqC r FA fc TA tc))
  go_simp
  go_at_call 59
  refine (HC.out _ hX1).mono ?_
  rintro e w2 ⟨y, A1, c1, rfl, hrow, hfit, hTT, hk⟩
  obtain ⟨ys, yr, yf, yb⟩ := y
  have hk0 : Keep D (X3 w (midC m A c) (rqC r FA fc TA tc)) w2 := Keep.ahead HDR.out hk
  unfold rsV
  dsimp only at hrow hfit ⊢
  (try go_wp2_with fail)
  refine hK.out _ _ (.inr (HSC.out _ hk0)) (fun _ => ?_)
  clear hK K
  (try simp only [List.getElem_toArray, List.getElem_cons_succ, List.getElem_cons_zero, Act.put, List.setIfInBounds_toArray, List.set_cons_zero, List.set_cons_succ])
  refine anyT_ready (rs := [9]) (by kernel_rfl) (by simp) ?_
  refine AllReadyT.cons rfl (fun K hK => ?_) AllReadyT.nil
  have hb2 : Below w2.heap.size w2 (w2.alloc (.cells #[.string m.name, .string m.value] 59)) := (Below.refl _ _).alloc (Nat.le_refl _) _
  go_simp
  refine hK.out _ _ (.inr (HSC.out _ (hk0.step hb2))) (fun _ => ?_)
  clear hK K
  (try simp only [List.getElem_toArray, List.getElem_cons_succ, List.getElem_cons_zero, Act.put, List.setIfInBounds_toArray, List.set_cons_zero, List.set_cons_succ])
  refine anyT_ready (rs := [10]) (by kernel_rfl) (by simp) ?_
  refine AllReadyT.cons rfl (fun K hK => ?_) AllReadyT.nil
  go_simp
  go_at_call 93
  refine (laid_any ys yr yb A1 (some ⟨w2.heap.size, 0, none⟩) c1 1 yf [(m.name, m.value)] _ (hrow.row.below hb2) (row_field w2 m.name m.value rfl) (Nat.le_trans hfit.many (Nat.le_trans HN.out (by decide))) (by simp)).mono ?_
  rintro e w3 ⟨A3, c3, rfl, ho, hb⟩
  have hk3 : Keep D (X3 w (midC m A c) (rqC r FA fc TA tc)) w3 := (hk0.step hb2).step hb
  have HKZ := Lib.hid (show Keep (Btw w (X3 w (midC m A c) (rqC r FA fc TA tc)).drew) w2 w3 from Keep.of (hb2.trans (hb.mono hb2.size)))
  have hk4 := hk3
  (try go_wp2_with fail)
  refine hK.out _ _ (.inr (HSC.out _ hk3)) (fun _ => ?_)
  clear hK K
  (try simp only [List.getElem_toArray, List.getElem_cons_succ, List.getElem_cons_zero, Act.put, List.setIfInBounds_toArray, List.set_cons_zero, List.set_cons_succ])
  refine anyT_ready (rs := [11]) (by kernel_rfl) (by simp) ?_
  refine AllReadyT.cons rfl (fun K hK => ?_) AllReadyT.nil
  obtain ⟨_, ⟨r0, r1, r2, r3⟩, f0, f1, f2, f3⟩ := X3_facts HL.out hk4
  have hz2 : w.heap.size + 1 + 1 < w3.heap.size := by have := keep_size hk4; omega
  have HO := Lib.hid (own_less (b' := (X3 w (midC m A c) (rqC r FA fc TA tc)).drew.heap.size) ho (Nat.le_trans hk.size hb2.size))
  have HFT := Lib.hid (fit_more (m := m) hfit HM.out)
  have HTT := Lib.hid hTT
  have HK2 := Lib.hid hk
  clear hfit hTT hk hk0 hk3 hk4 ho hb hrow
  go_simp
  refine hK.out _ _ (.inl (by rfl)) (fun _ => ?_)
  clear hK K
  (try simp only [List.getElem_toArray, List.getElem_cons_succ, List.getElem_cons_zero, Act.put, List.setIfInBounds_toArray, List.set_cons_zero, List.set_cons_succ])
  refine anyT_done (by kernel_rfl) ?_ _
  go_wp2
  exact bodyPost_ret (v := rsV ⟨ys, yr, yf ++ [(m.name, m.value)], yb⟩ A3 c3) (by simp [results, Tryz.results57, go_sem, rsV, r0, r1, r2, r3]) rfl
   ((fin_own (F := fun y => { y with fields := y.fields ++ [(m.name, m.value)] }) (T := fun q => mapT q (fun y => { y with fields := removeL y.fields m.name }) T) (b := w.heap.size + 1 + 1) HL.out hX1 (by omega) (by show _ < (X3 w (midC m A c) (rqC r FA fc TA tc)).heap.size; rw [X3_size]; omega) HTT.out HK2.out HKZ.out HO.out rfl HFT.out _ _ _ _).imp (Nat.le_refl _) fun _ _ _ h => mapT_two h)
 ·have hb1 : Below (X3 w (midC m A c) (rqC r FA fc TA tc)).heap.size (X3 w (midC m A c) (rqC r FA fc TA tc)) ((X3 w (midC m A c) (rqC r FA fc TA tc)).drew.alloc (.cells #[.string m.name, .string m.value] 59)) := HDR.out.alloc HDR.out.size _
  have hX1 : Below w.heap.size w ((X3 w (midC m A c) (rqC r FA fc TA tc)).drew.alloc (.cells #[.string m.name, .string m.value] 59)) := (X3_below w (midC m A c) (rqC r FA fc TA tc)).trans (hb1.mono (X3_below w (midC m A c) (rqC r FA fc TA tc)).size)
  have hDW : ∀ k, D k → k < (X3 w (midC m A c) (rqC r FA fc TA tc)).drew.heap.size := fun k hd => Nat.lt_of_lt_of_le (HL.out k hd) (X3_below w (midC m A c) (rqC r FA fc TA tc)).size
  go_simp
  refine hK.out _ _ (.inr (HSC.out _ (Keep.of hb1))) (fun _ => ?_)
  clear hK K
  (try simp only [List.getElem_toArray, List.getElem_cons_succ, List.getElem_cons_zero, Act.put, List.setIfInBounds_toArray, List.set_cons_zero, List.set_cons_succ])
  refine anyT_ready (rs := [3]) (by kernel_rfl) (by simp) ?_
  refine AllReadyT.cons rfl (fun K hK => ?_) AllReadyT.nil
  go_simp
  go_at_call 59
  refine (HC.out _ hX1).mono ?_
  rintro e w2 ⟨y, A1, c1, rfl, hrow, hfit, hTT, hk⟩
  obtain ⟨ys, yr, yf, yb⟩ := y
  have hk0 : Keep D (X3 w (midC m A c) (rqC r FA fc TA tc)) w2 := Keep.ahead hb1 hk
  unfold rsV
  dsimp only at hrow hfit ⊢
  (try go_wp2_with fail)
  refine hK.out _ _ (.inr (HSC.out _ hk0)) (fun _ => ?_)
  clear hK K
  (try simp only [List.getElem_toArray, List.getElem_cons_succ, List.getElem_cons_zero, Act.put, List.setIfInBounds_toArray, List.set_cons_zero, List.set_cons_succ])
  refine anyT_ready (rs := [10]) (by kernel_rfl) (by simp) ?_
  refine AllReadyT.cons rfl (fun K hK => ?_) AllReadyT.nil
  go_simp
  go_at_call 93
  refine (laid_any ys yr yb A1 (some ⟨(X3 w (midC m A c) (rqC r FA fc TA tc)).drew.heap.size, 0, none⟩) c1 1 yf [(m.name, m.value)] _ hrow.row (rowD_field hDW hk) (Nat.le_trans hfit.many (Nat.le_trans HN.out (by decide))) (by simp)).mono ?_
  rintro e w3 ⟨A3, c3, rfl, ho, hb⟩
  have hk3 : Keep D (X3 w (midC m A c) (rqC r FA fc TA tc)) w3 := hk0.step hb
  have HKZ := Lib.hid (show Keep (Btw w ((X3 w (midC m A c) (rqC r FA fc TA tc)).drew.alloc (.cells #[.string m.name, .string m.value] 59))) w2 w3 from Keep.of hb)
  have hk4 := hk3
  (try go_wp2_with fail)
  refine hK.out _ _ (.inr (HSC.out _ hk3)) (fun _ => ?_)
  clear hK K
  (try simp only [List.getElem_toArray, List.getElem_cons_succ, List.getElem_cons_zero, Act.put, List.setIfInBounds_toArray, List.set_cons_zero, List.set_cons_succ])
  refine anyT_ready (rs := [11]) (by kernel_rfl) (by simp) ?_
  refine AllReadyT.cons rfl (fun K hK => ?_) AllReadyT.nil
  obtain ⟨_, ⟨r0, r1, r2, r3⟩, f0, f1, f2, f3⟩ := X3_facts HL.out hk4
  have hz2 : w.heap.size + 1 + 1 < w3.heap.size := by have := keep_size hk4; omega
  have HO := Lib.hid (own_less (b' := ((X3 w (midC m A c) (rqC r FA fc TA tc)).drew.alloc (.cells #[.string m.name, .string m.value] 59)).heap.size) ho hk.size)
  have HFT := Lib.hid (fit_more (m := m) hfit HM.out)
  have HTT := Lib.hid hTT
  have HK2 := Lib.hid hk
  clear hfit hTT hk hk0 hk3 hk4 ho hb hrow
  go_simp
  refine hK.out _ _ (.inl (by rfl)) (fun _ => ?_)
  clear hK K
  (try simp only [List.getElem_toArray, List.getElem_cons_succ, List.getElem_cons_zero, Act.put, List.setIfInBounds_toArray, List.set_cons_zero, List.set_cons_succ])
  refine anyT_done (by kernel_rfl) ?_ _
  go_wp2
  exact bodyPost_ret (v := rsV ⟨ys, yr, yf ++ [(m.name, m.value)], yb⟩ A3 c3) (by simp [results, Tryz.results57, go_sem, rsV, r0, r1, r2, r3]) rfl
   ((fin_own (F := fun y => { y with fields := y.fields ++ [(m.name, m.value)] }) (T := fun q => mapT q (fun y => { y with fields := removeL y.fields m.name }) T) (b := w.heap.size + 1 + 1) HL.out hX1 (by omega) (by show _ < ((X3 w (midC m A c) (rqC r FA fc TA tc)).drew.alloc (.cells #[.string m.name, .string m.value] 59)).heap.size; rw [World.size_alloc]; show _ < (X3 w (midC m A c) (rqC r FA fc TA tc)).heap.size + 1; rw [X3_size]; omega) HTT.out HK2.out HKZ.out HO.out rfl HFT.out _ _ _ _).imp (Nat.le_refl _) fun _ _ _ h => mapT_two h)
theorem do_add {m : Mid} (hk : m.kind = 1) : DoAt m 56 := by
 refine ⟨fun args w => Tryz.call56 args w, fun D Pre n0 N T f w r A c FA fc TA tc hE hP hX hn0 _ hN _ _ hF hT hm hr => ?_⟩
 refine (add_any D Pre n0 N T f w m r A c FA fc TA tc hE hP hX hn0 hN hF hT hm hr).mono fun e w' h => h.imp (Nat.le_refl _) fun x A c h => doT_inl (ahead_id (.inl hk)) ?_
 rw [show behindP m r = fun y => { y with fields := y.fields ++ [(m.name, m.value)] } from funext fun y => behind1 y hk]
 exact h
theorem do_set {m : Mid} (hk : m.kind = 2) : DoAt m 57 := by
 refine ⟨fun args w => Tryz.call57 args w, fun D Pre n0 N T f w r A c FA fc TA tc hE hP hX hn0 _ hN _ _ hF hT hm hr => ?_⟩
 refine (set_any D Pre n0 N T f w m r A c FA fc TA tc hE hP hX hn0 hN hF hT hm hr).mono fun e w' h => h.imp (Nat.le_refl _) fun x A c h => doT_inl (ahead_id (.inr (.inl hk))) ?_
 rw [show behindP m r = fun y => { y with fields := removeL y.fields m.name ++ [(m.name, m.value)] } from funext fun y => behind2 y hk]
 exact h
end Go.Proofs.YtbnafbdhomdcoaaGreatDoor
