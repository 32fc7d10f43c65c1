/-
 CjDd, without what this claim does not reach.
-/
import Derived.Test.YtbnafbdhomdcoaaGreatDoorZCjDc
import Derived.Test.YtbnafbdhomdcoaaGreatDoorZm4
namespace Go.Proofs.YtbnafbdhomdcoaaGreatDoor
open Go.RowKit Go.Shelf Go.Lib
theorem behind9 {m : Mid} {r : Rq} (h : m.kind = 9) : behindP m r = fun y => if cacheOk r y = true then { y with fields := y.fields ++ [(cacheN, m.value)] } else y := by
 funext y
 unfold behindP
 rw [if_neg (by omega), if_neg (by omega), if_neg (by omega), if_neg (by omega), if_pos h]
theorem find_there (l : List Fl) (name : ByteArray) : (findV l name).2 = !decide (allV l name = []) := by
 unfold findV
 cases h : allV l name with
 | nil => simp
 | cons v vs => simp
theorem lit_eq (s t : ByteArray) : (s.toList == t.data.toList) = decide (s = t) := by
 rw [Bool.eq_iff_iff, beq_iff_eq, decide_eq_true_eq]
 constructor
 ·intro h
  exact bytes_ext (by rw [← Lib.toList_data]; exact h)
 ·intro h
  rw [h, Lib.toList_data]
theorem cache_tests (r : Rq) (y : Rs) : cacheOk r y = (!(findV y.fields cacheN).2 && ((!(y.status != 200) || !(y.status != 304)) && ((r.method.toList == [71, 69, 84]) || (r.method.toList == [72, 69, 65, 68])))) := by
 have h1 := lit_eq r.method getM
 have h2 := lit_eq r.method headM
 rw [show getM.data.toList = [71, 69, 84] from rfl] at h1
 rw [show headM.data.toList = [72, 69, 65, 68] from rfl] at h2
 unfold cacheOk
 have e1 : (y.status != (200 : Int)) = !decide (y.status = 200) := by rw [bne]; congr 1
 have e2 : (y.status != (304 : Int)) = !decide (y.status = 304) := by rw [bne]; congr 1
 rw [h1, h2, e1, e2, find_there]
 simp
set_option maxRecDepth 20000 in
set_option maxHeartbeats 8000000 in
theorem do_cache {m : Mid} (hkd : m.kind = 9) : DoAt m 73 := by
 refine ⟨fun args w => Tryz.call73 args w, fun D Pre n0 N T f w r A c FA fc TA tc hE hP hX hn0 hN8 hN hA hcap hF hT hm hr => ?_⟩
 obtain ⟨g, lb, rfl, he, hc⟩ := hX
 have HC := Lib.hid (nx_call fc tc hE hP hc hF hT hr)
 have HL := Lib.hid hE.low
 have HN0 := Lib.hid hn0
 have HN := Lib.hid hN
 have HV := Lib.hid hm.valueL
 have HAI := Lib.hid (ahead_id (r := r) (.inr (.inr (.inr hkd))))
 have HBI := Lib.hid (behind9 (r := r) hkd)
 have HCK := Lib.hid (fun y => cache_tests r y)
 have hX0 := Below.refl (X3 w (midC m A c) (rqC r FA fc TA tc)).heap.size (X3 w (midC m A c) (rqC r FA fc TA tc))
 clear hc hE hP hn0 hN8 hN hA hcap hF hT hm hr hkd
 unfold midV rqV
 go_enter Tryz.func73, Tryz.ntmps73
 go_wp2_with fail
 refine (HC.out (X3 w (midC m A c) (rqC r FA fc TA tc)) (X3_up hX0)).mono ?_
 rintro e w2 ⟨y, A1, c1, rfl, hrow, hfit, hTT, hk⟩
 obtain ⟨⟨⟨m0, m1, m2, m3, m4⟩, a0, a1, a2, a3, a4, a5, a6⟩, ⟨r0, r1, r2, r3⟩, f0, f1, f2, f3⟩ := X3_facts HL.out hk
 have hz := keep_size hk
 have hz2 : w.heap.size + 1 + 1 < w2.heap.size := by omega
 have hz1 : w.heap.size + 1 < w2.heap.size := by omega
 have hz0 : w.heap.size < w2.heap.size := by omega
 have HFD := Lib.hid (fun o => Find_any A1 c1 y.fields cacheN (w2.alloc o) (hrow.row.alloc o) (Nat.le_trans hfit.many (Nat.le_trans HN.out (by decide))) hfit.wide cacheN_size)
 have HCY := Lib.hid (HCK.out y)
 generalize (findV y.fields cacheN).1 = fv at *
 generalize hth : (findV y.fields cacheN).2 = th at *
 generalize hck : cacheOk r y = ck at *
 have HCK2 := Lib.hid hck
 clear hth hck HCK HC hz
 obtain ⟨ys, yr, yf, yb⟩ := y
 unfold rsV
 dsimp only at hrow hfit HFD HCY ⊢
 unfold cacheN at HFD
 go_wp2_with fail
 refine (HFD.out _).mono ?_
 rintro e w3 ⟨rfl, hb⟩
 have hb1 : Below (w2.heap.size + 1) (w2.alloc (.cells #[.int .i64 ys, .string yr, .slice A1 yf.length c1, .string yb] 29)) w3 := by simpa using hb
 obtain ⟨c0, _⟩ := box6 hb1 0
 obtain ⟨c1', _⟩ := box6 hb1 1
 obtain ⟨c2', _⟩ := box6 hb1 2
 obtain ⟨c3, _⟩ := box6 hb1 3
 have hz3 : w2.heap.size < w3.heap.size := box_size hb1
 obtain ⟨q0, p0⟩ := far_box hb1 (p := ⟨w.heap.size + 1 + 1, 0, none⟩) hz2
 obtain ⟨q1, p1⟩ := far_box hb1 (p := ⟨w.heap.size + 1 + 1, 1, none⟩) hz2
 obtain ⟨q2, p2⟩ := far_box hb1 (p := ⟨w.heap.size + 1 + 1, 2, none⟩) hz2
 obtain ⟨q3, p3⟩ := far_box hb1 (p := ⟨w.heap.size + 1 + 1, 3, none⟩) hz2
 rw [r0] at q0
 rw [r1] at q1
 rw [r2] at q2
 rw [r3] at q3
 rw [f0] at p0
 rw [f1] at p1
 rw [f2] at p2
 rw [f3] at p3
 have n2 := (far_box hb1 (p := ⟨w.heap.size, 2, none⟩) hz0).1
 rw [m2] at n2
 have e0 := (far_box hb1 (p := ⟨w.heap.size + 1, 0, none⟩) hz1).1
 rw [a0] at e0
 have hz4 : w.heap.size + 1 + 1 < w3.heap.size := by omega
 have hz5 : w.heap.size < w3.heap.size := by omega
 have hz6 : w.heap.size + 1 < w3.heap.size := by omega
 have HB := Lib.hid (below_box hb1)
 have HTT := Lib.hid hTT
 have HK2 := Lib.hid hk
 have HFIT := Lib.hid hfit
 have HROW := Lib.hid hrow
 clear hb hb1 r0 r1 r2 r3 f0 f1 f2 f3 m0 m1 m2 m3 m4 a0 a1 a2 a3 a4 a5 a6 hrow hfit hTT hk hz0 hz1 hz2 HFD
 obtain ⟨ba, h1⟩ : ∃ b, (ys != 200) = b := ⟨_, rfl⟩
 obtain ⟨bb, h2⟩ : ∃ b, (ys != 304) = b := ⟨_, rfl⟩
 obtain ⟨bc, h3⟩ : ∃ b, (r.method.toList == [71, 69, 84]) = b := ⟨_, rfl⟩
 obtain ⟨bd, h4⟩ : ∃ b, (r.method.toList == [72, 69, 65, 68]) = b := ⟨_, rfl⟩
 rw [h1, h2, h3, h4] at HCY
 cases th
 ·cases ba
  ·cases bc
   ·cases bd
    ·skip
     have HCF := Lib.hid (show ck = false by have h := HCY.out; simpa using h)
     clear HCY
     go_wp2
     exact bodyPost_ret (v := rsV ⟨ys, yr, yf, yb⟩ A1 c1) (by simp [results, Tryz.results73, go_sem, rsV, q0, q1, q2, q3]) rfl ((fin_pass2 (y := ⟨ys, yr, yf, yb⟩) (F := behindP m r) (b := w.heap.size + 1 + 1) (M := N + 2) HN0.out (X3_up hX0) (by omega) (X3_lt hX0) HROW.out HFIT.out (by omega) HTT.out HK2.out (Keep.of HB.out) (by rw [HBI.out]; show (if cacheOk r ⟨ys, yr, yf, yb⟩ = true then _ else _) = _; rw [HCK2.out, HCF.out]; rfl) _ _ _ _).imp (Nat.le_refl _) fun _ _ _ h => doT_inl HAI.out h)
    ·skip
     have HCF := Lib.hid (show ck = true by have h := HCY.out; simpa using h)
     clear HCY
     go_wp2_with fail
     have hb7 : Below w2.heap.size w2 (w3.alloc (.cells #[.string ⟨#[67, 97, 99, 104, 101, 45, 67, 111, 110, 116, 114, 111, 108]⟩, .string m.value] 59)) := HB.out.alloc HB.out.size _
     refine (laid_any ys yr yb A1 (some ⟨w3.heap.size, 0, none⟩) c1 1 yf [(⟨#[67, 97, 99, 104, 101, 45, 67, 111, 110, 116, 114, 111, 108]⟩, m.value)] _ (HROW.out.row.below hb7) (row_field w3 _ m.value rfl) (Nat.le_trans HFIT.out.many (Nat.le_trans HN.out (by decide))) (by simp)).mono ?_
     rintro e w4 ⟨A3, c3', rfl, ho, hb⟩
     have hb8 := hb7.trans (hb.mono hb7.size)
     obtain ⟨_, ⟨r0, r1, r2, r3⟩, f0, f1, f2, f3⟩ := X3_facts HL.out (HK2.out.step hb8)
     have hz7 : w.heap.size + 1 + 1 < w4.heap.size := by have := keep_size (HK2.out.step hb8); omega
     have HKZ := Lib.hid (show Keep (Btw w (X3 w (midC m A c) (rqC r FA fc TA tc))) w2 w4 from Keep.of hb8)
     have HO := Lib.hid (own_less (b' := (X3 w (midC m A c) (rqC r FA fc TA tc)).heap.size) ho (Nat.le_trans HK2.out.size hb7.size))
     clear ho hb hb7 hb8 q0 q1 q2 q3 p0 p1 p2 p3 c0 c1' c2' c3 n2 e0
     go_wp2
     exact bodyPost_ret (v := rsV ⟨ys, yr, yf ++ [(cacheN, m.value)], yb⟩ A3 c3') (by simp [results, Tryz.results73, go_sem, rsV, r0, r1, r2, r3]) rfl ((fin_own (x := ⟨ys, yr, yf ++ [(cacheN, m.value)], yb⟩) (F := behindP m r) (M := N + 2) (b := w.heap.size + 1 + 1) HL.out (X3_up hX0) (by omega) (X3_lt hX0) HTT.out HK2.out HKZ.out HO.out (by rw [HBI.out]; show _ = (if cacheOk r ⟨ys, yr, yf, yb⟩ = true then _ else _); rw [HCK2.out, HCF.out]; rfl) ⟨by show (yf ++ [(cacheN, m.value)]).length ≤ _; have := HFIT.out.many; rw [List.length_append]; simp; exact Nat.le_succ_of_le this, wide_append HFIT.out.wide (wide_cons cacheN_size HV.out wide_nil)⟩ _ _ _ _).imp (Nat.le_refl _) fun _ _ _ h => doT_inl HAI.out h)
   ·skip
    have HCF := Lib.hid (show ck = true by have h := HCY.out; simpa using h)
    clear HCY
    go_wp2_with fail
    have hb7 : Below w2.heap.size w2 (w3.alloc (.cells #[.string ⟨#[67, 97, 99, 104, 101, 45, 67, 111, 110, 116, 114, 111, 108]⟩, .string m.value] 59)) := HB.out.alloc HB.out.size _
    refine (laid_any ys yr yb A1 (some ⟨w3.heap.size, 0, none⟩) c1 1 yf [(⟨#[67, 97, 99, 104, 101, 45, 67, 111, 110, 116, 114, 111, 108]⟩, m.value)] _ (HROW.out.row.below hb7) (row_field w3 _ m.value rfl) (Nat.le_trans HFIT.out.many (Nat.le_trans HN.out (by decide))) (by simp)).mono ?_
    rintro e w4 ⟨A3, c3', rfl, ho, hb⟩
    have hb8 := hb7.trans (hb.mono hb7.size)
    obtain ⟨_, ⟨r0, r1, r2, r3⟩, f0, f1, f2, f3⟩ := X3_facts HL.out (HK2.out.step hb8)
    have hz7 : w.heap.size + 1 + 1 < w4.heap.size := by have := keep_size (HK2.out.step hb8); omega
    have HKZ := Lib.hid (show Keep (Btw w (X3 w (midC m A c) (rqC r FA fc TA tc))) w2 w4 from Keep.of hb8)
    have HO := Lib.hid (own_less (b' := (X3 w (midC m A c) (rqC r FA fc TA tc)).heap.size) ho (Nat.le_trans HK2.out.size hb7.size))
    clear ho hb hb7 hb8 q0 q1 q2 q3 p0 p1 p2 p3 c0 c1' c2' c3 n2 e0
    go_wp2
    exact bodyPost_ret (v := rsV ⟨ys, yr, yf ++ [(cacheN, m.value)], yb⟩ A3 c3') (by simp [results, Tryz.results73, go_sem, rsV, r0, r1, r2, r3]) rfl ((fin_own (x := ⟨ys, yr, yf ++ [(cacheN, m.value)], yb⟩) (F := behindP m r) (M := N + 2) (b := w.heap.size + 1 + 1) HL.out (X3_up hX0) (by omega) (X3_lt hX0) HTT.out HK2.out HKZ.out HO.out (by rw [HBI.out]; show _ = (if cacheOk r ⟨ys, yr, yf, yb⟩ = true then _ else _); rw [HCK2.out, HCF.out]; rfl) ⟨by show (yf ++ [(cacheN, m.value)]).length ≤ _; have := HFIT.out.many; rw [List.length_append]; simp; exact Nat.le_succ_of_le this, wide_append HFIT.out.wide (wide_cons cacheN_size HV.out wide_nil)⟩ _ _ _ _).imp (Nat.le_refl _) fun _ _ _ h => doT_inl HAI.out h)
  ·cases bb
   ·cases bc
    ·cases bd
     ·skip
      have HCF := Lib.hid (show ck = false by have h := HCY.out; simpa using h)
      clear HCY
      go_wp2
      exact bodyPost_ret (v := rsV ⟨ys, yr, yf, yb⟩ A1 c1) (by simp [results, Tryz.results73, go_sem, rsV, q0, q1, q2, q3]) rfl ((fin_pass2 (y := ⟨ys, yr, yf, yb⟩) (F := behindP m r) (b := w.heap.size + 1 + 1) (M := N + 2) HN0.out (X3_up hX0) (by omega) (X3_lt hX0) HROW.out HFIT.out (by omega) HTT.out HK2.out (Keep.of HB.out) (by rw [HBI.out]; show (if cacheOk r ⟨ys, yr, yf, yb⟩ = true then _ else _) = _; rw [HCK2.out, HCF.out]; rfl) _ _ _ _).imp (Nat.le_refl _) fun _ _ _ h => doT_inl HAI.out h)
     ·skip
      have HCF := Lib.hid (show ck = true by have h := HCY.out; simpa using h)
      clear HCY
      go_wp2_with fail
      have hb7 : Below w2.heap.size w2 (w3.alloc (.cells #[.string ⟨#[67, 97, 99, 104, 101, 45, 67, 111, 110, 116, 114, 111, 108]⟩, .string m.value] 59)) := HB.out.alloc HB.out.size _
      refine (laid_any ys yr yb A1 (some ⟨w3.heap.size, 0, none⟩) c1 1 yf [(⟨#[67, 97, 99, 104, 101, 45, 67, 111, 110, 116, 114, 111, 108]⟩, m.value)] _ (HROW.out.row.below hb7) (row_field w3 _ m.value rfl) (Nat.le_trans HFIT.out.many (Nat.le_trans HN.out (by decide))) (by simp)).mono ?_
      rintro e w4 ⟨A3, c3', rfl, ho, hb⟩
      have hb8 := hb7.trans (hb.mono hb7.size)
      obtain ⟨_, ⟨r0, r1, r2, r3⟩, f0, f1, f2, f3⟩ := X3_facts HL.out (HK2.out.step hb8)
      have hz7 : w.heap.size + 1 + 1 < w4.heap.size := by have := keep_size (HK2.out.step hb8); omega
      have HKZ := Lib.hid (show Keep (Btw w (X3 w (midC m A c) (rqC r FA fc TA tc))) w2 w4 from Keep.of hb8)
      have HO := Lib.hid (own_less (b' := (X3 w (midC m A c) (rqC r FA fc TA tc)).heap.size) ho (Nat.le_trans HK2.out.size hb7.size))
      clear ho hb hb7 hb8 q0 q1 q2 q3 p0 p1 p2 p3 c0 c1' c2' c3 n2 e0
      go_wp2
      exact bodyPost_ret (v := rsV ⟨ys, yr, yf ++ [(cacheN, m.value)], yb⟩ A3 c3') (by simp [results, Tryz.results73, go_sem, rsV, r0, r1, r2, r3]) rfl ((fin_own (x := ⟨ys, yr, yf ++ [(cacheN, m.value)], yb⟩) (F := behindP m r) (M := N + 2) (b := w.heap.size + 1 + 1) HL.out (X3_up hX0) (by omega) (X3_lt hX0) HTT.out HK2.out HKZ.out HO.out (by rw [HBI.out]; show _ = (if cacheOk r ⟨ys, yr, yf, yb⟩ = true then _ else _); rw [HCK2.out, HCF.out]; rfl) ⟨by show (yf ++ [(cacheN, m.value)]).length ≤ _; have := HFIT.out.many; rw [List.length_append]; simp; exact Nat.le_succ_of_le this, wide_append HFIT.out.wide (wide_cons cacheN_size HV.out wide_nil)⟩ _ _ _ _).imp (Nat.le_refl _) fun _ _ _ h => doT_inl HAI.out h)
    ·skip
     have HCF := Lib.hid (show ck = true by have h := HCY.out; simpa using h)
     clear HCY
     go_wp2_with fail
     have hb7 : Below w2.heap.size w2 (w3.alloc (.cells #[.string ⟨#[67, 97, 99, 104, 101, 45, 67, 111, 110, 116, 114, 111, 108]⟩, .string m.value] 59)) := HB.out.alloc HB.out.size _
     refine (laid_any ys yr yb A1 (some ⟨w3.heap.size, 0, none⟩) c1 1 yf [(⟨#[67, 97, 99, 104, 101, 45, 67, 111, 110, 116, 114, 111, 108]⟩, m.value)] _ (HROW.out.row.below hb7) (row_field w3 _ m.value rfl) (Nat.le_trans HFIT.out.many (Nat.le_trans HN.out (by decide))) (by simp)).mono ?_
     rintro e w4 ⟨A3, c3', rfl, ho, hb⟩
     have hb8 := hb7.trans (hb.mono hb7.size)
     obtain ⟨_, ⟨r0, r1, r2, r3⟩, f0, f1, f2, f3⟩ := X3_facts HL.out (HK2.out.step hb8)
     have hz7 : w.heap.size + 1 + 1 < w4.heap.size := by have := keep_size (HK2.out.step hb8); omega
     have HKZ := Lib.hid (show Keep (Btw w (X3 w (midC m A c) (rqC r FA fc TA tc))) w2 w4 from Keep.of hb8)
     have HO := Lib.hid (own_less (b' := (X3 w (midC m A c) (rqC r FA fc TA tc)).heap.size) ho (Nat.le_trans HK2.out.size hb7.size))
     clear ho hb hb7 hb8 q0 q1 q2 q3 p0 p1 p2 p3 c0 c1' c2' c3 n2 e0
     go_wp2
     exact bodyPost_ret (v := rsV ⟨ys, yr, yf ++ [(cacheN, m.value)], yb⟩ A3 c3') (by simp [results, Tryz.results73, go_sem, rsV, r0, r1, r2, r3]) rfl ((fin_own (x := ⟨ys, yr, yf ++ [(cacheN, m.value)], yb⟩) (F := behindP m r) (M := N + 2) (b := w.heap.size + 1 + 1) HL.out (X3_up hX0) (by omega) (X3_lt hX0) HTT.out HK2.out HKZ.out HO.out (by rw [HBI.out]; show _ = (if cacheOk r ⟨ys, yr, yf, yb⟩ = true then _ else _); rw [HCK2.out, HCF.out]; rfl) ⟨by show (yf ++ [(cacheN, m.value)]).length ≤ _; have := HFIT.out.many; rw [List.length_append]; simp; exact Nat.le_succ_of_le this, wide_append HFIT.out.wide (wide_cons cacheN_size HV.out wide_nil)⟩ _ _ _ _).imp (Nat.le_refl _) fun _ _ _ h => doT_inl HAI.out h)
   ·skip
    have HCF := Lib.hid (show ck = false by have h := HCY.out; simpa using h)
    clear HCY
    go_wp2
    exact bodyPost_ret (v := rsV ⟨ys, yr, yf, yb⟩ A1 c1) (by simp [results, Tryz.results73, go_sem, rsV, q0, q1, q2, q3]) rfl ((fin_pass2 (y := ⟨ys, yr, yf, yb⟩) (F := behindP m r) (b := w.heap.size + 1 + 1) (M := N + 2) HN0.out (X3_up hX0) (by omega) (X3_lt hX0) HROW.out HFIT.out (by omega) HTT.out HK2.out (Keep.of HB.out) (by rw [HBI.out]; show (if cacheOk r ⟨ys, yr, yf, yb⟩ = true then _ else _) = _; rw [HCK2.out, HCF.out]; rfl) _ _ _ _).imp (Nat.le_refl _) fun _ _ _ h => doT_inl HAI.out h)
 ·skip
  have HCF := Lib.hid (show ck = false by have h := HCY.out; simpa using h)
  clear HCY
  go_wp2
  exact bodyPost_ret (v := rsV ⟨ys, yr, yf, yb⟩ A1 c1) (by simp [results, Tryz.results73, go_sem, rsV, q0, q1, q2, q3]) rfl ((fin_pass2 (y := ⟨ys, yr, yf, yb⟩) (F := behindP m r) (b := w.heap.size + 1 + 1) (M := N + 2) HN0.out (X3_up hX0) (by omega) (X3_lt hX0) HROW.out HFIT.out (by omega) HTT.out HK2.out (Keep.of HB.out) (by rw [HBI.out]; show (if cacheOk r ⟨ys, yr, yf, yb⟩ = true then _ else _) = _; rw [HCK2.out, HCF.out]; rfl) _ _ _ _).imp (Nat.le_refl _) fun _ _ _ h => doT_inl HAI.out h)
end Go.Proofs.YtbnafbdhomdcoaaGreatDoor
