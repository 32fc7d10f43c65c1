/-
 CjDg, without what this claim does not reach.
-/
import Derived.Test.YtbnafbdhomdcoaaGreatDoorZCjDf
import Derived.Test.YtbnafbdhomdcoaaGreatDoorZCjKd
namespace Go.Proofs.YtbnafbdhomdcoaaGreatDoor
open Go.RowKit Go.Shelf Go.Lib
theorem ahead7 {m : Mid} {r : Rq} (hk : m.kind = 7) : aheadP m r = if letP m r = true then .inl r else .inr (plainRs 401 [(wwwN, realmT ++ quoteT m.name ++ charsT)]) := by
 unfold aheadP
 rw [if_neg (by omega), if_neg (by omega), if_neg (by omega), if_pos hk]
theorem authN_size : authN.size ≤ maxLen := by unfold maxLen; decide +kernel
theorem wwwN_size : wwwN.size ≤ maxLen := by unfold maxLen; decide +kernel
theorem basicT_size : basicT.size ≤ maxLen := by unfold maxLen; decide +kernel
theorem trim_same (l : List UInt8) (c : UInt8) : Lib.trimLeftB l c = Lib.trimLeftS l [c] := by
 unfold Lib.trimLeftB Lib.trimLeftS
 congr 1
 funext x
 rw [Bool.eq_iff_iff]
 simp
theorem trim_len (l : List UInt8) (c : UInt8) : (Lib.trimLeftS l [c]).length ≤ l.length := by
 unfold Lib.trimLeftS
 exact (List.dropWhile_suffix _).length_le
theorem Left_any (s : ByteArray) (w : World) :
  Calls Tryz.prog 107 #[.string s, .string ⟨#[32]⟩] w fun e w' => e = .returned (.string ⟨(Lib.trimLeftS s.data.toList [32]).toArray⟩) ∧ w = w' :=
 (Tryz.strings_TrimLeft_one s 32 (by decide) w).mono fun _ _ ⟨h1, h2⟩ => ⟨by rw [h1, trim_same], h2.symm⟩
theorem let_none {m : Mid} {r : Rq} (h : onlyP r.fields authN = none) : letP m r = false := by unfold letP; rw [h]
theorem let_bad {m : Mid} {r : Rq} {s : ByteArray} (h : onlyP r.fields authN = some s) (hc : credP s = none) : letP m r = false := by unfold letP; rw [h]; dsimp only; rw [hc]
theorem let_some {m : Mid} {r : Rq} {s t : ByteArray} (h : onlyP r.fields authN = some s) (hc : credP s = some t) : letP m r = isIn m.list t := by unfold letP; rw [h]; dsimp only; rw [hc]
theorem cred_ways (s : ByteArray) : (¬ 5 < s.size ∧ credP s = none) ∨ (5 < s.size ∧ alike (s.extract 0 5) basicT = false ∧ credP s = none) ∨ (5 < s.size ∧ alike (s.extract 0 5) basicT = true ∧ ¬ bt s 5 = 32 ∧ credP s = none) ∨
  (5 < s.size ∧ alike (s.extract 0 5) basicT = true ∧ bt s 5 = 32 ∧ credP s = (b64 (Lib.trimLeftS (s.extract 5 s.size).data.toList [32])).map fun l => ⟨l.toArray⟩) := by
 unfold credP
 by_cases h1 : 5 < s.size
 ·cases h2 : alike (s.extract 0 5) basicT
  ·exact .inr (.inl ⟨h1, rfl, by rw [if_neg]; rintro ⟨_, h, _⟩; cases h⟩)
  ·by_cases h3 : bt s 5 = 32
   ·exact .inr (.inr (.inr ⟨h1, rfl, h3, by rw [if_pos ⟨h1, rfl, h3⟩]⟩))
   ·exact .inr (.inr (.inl ⟨h1, rfl, h3, by rw [if_neg]; rintro ⟨_, _, h⟩; exact h3 h⟩))
 ·exact .inl ⟨h1, by rw [if_neg]; rintro ⟨h, _⟩; exact h1 h⟩
set_option maxRecDepth 20000 in
set_option maxHeartbeats 8000000 in
theorem do_basic {m : Mid} (hkd : m.kind = 7) (hv : isFld m.name = true) : DoAt m 69 := by
 refine ⟨fun args w => Tryz.call69 args w, fun D Pre n0 N T f w r A c FA fc TA tc hE hP hX hn0 hN8 hN hA hcap hF hT hm hr => ?_⟩
 obtain ⟨g, lb, rfl, he, hc⟩ := hX
 have HC := Lib.hid (nx_call fc tc hE hP hc hF hT hr)
 have HL := Lib.hid hE.low
 have HG := Lib.hid (fun W h => hE.globC (W := W) h)
 have HN0 := Lib.hid hn0
 have HN8 := Lib.hid hN8
 have HN := Lib.hid hN
 have HA7 := Lib.hid (ahead7 (r := r) hkd)
 have HB := Lib.hid (fun y => behind_id (r := r) y (.inr (.inr (.inr (.inl hkd)))))
 have HON := Lib.hid (fun (W : World) (h : Below w.heap.size w W) => only_any r FA fc TA tc authN W (hF.below h).row hr authN_size)
 have HOZ := Lib.hid (fun s (h : onlyP r.fields authN = some s) => onlyP_size hr.fields h)
 have HCT := Lib.hid (fun (s : ByteArray) (W : World) (h : Below w.heap.size w W) => Contains_any A c m.list s W (hA.below h).row (list_ok hm.list).1)
 have HQT := Lib.hid (fun (W : World) => Quote_any m.name W hv (Nat.le_trans hm.name (by decide)))
 have HQZ := Lib.hid (show (quoteT m.name).size ≤ 4194304 by have := quoteT_size m.name; have := hm.name; omega)
 have HL1 := Lib.hid (let_none (m := m) (r := r))
 have HL2 := Lib.hid (fun s => let_bad (m := m) (r := r) (s := s))
 have HL3 := Lib.hid (fun s t => let_some (m := m) (r := r) (s := s) (t := t))
 have HPL := Lib.hid (fun W Z hr hg => Plain_any 401 (some ⟨Z, 0, none⟩) 1 [(wwwN, realmT ++ quoteT m.name ++ charsT)] W hr (by simp) (by decide) (by decide) hg)
 have HBD := Lib.hid (show plainRs 401 [(wwwN, realmT ++ quoteT m.name ++ charsT)] = ⟨401, ⟨#[]⟩, [ctF, (wwwN, realmT ++ quoteT m.name ++ charsT)], bodyP 401⟩ from rfl)
 have hX0 := Below.refl (X3 w (midC m A c) (rqC r FA fc TA tc)).heap.size (X3 w (midC m A c) (rqC r FA fc TA tc))
 clear hc hE hP hn0 hN8 hN hA hcap hF hT hm hr hkd
 clear hv
 generalize quoteT m.name = qt at *
 generalize bodyP 401 = bd at *
 have hqz := HQZ.out
 have hqs : ¬ 9223372036854775807 < 12 + qt.size := by omega
 have hqs2 : ¬ 9223372036854775807 < 12 + qt.size + 17 := by omega
 unfold midV rqV at *
 have key : letP m r = false ∨ letP m r = true := by cases letP m r <;> simp
 cases hon : onlyP r.fields authN with
 | none =>
  have hno := HL1.out hon
  clear key
  have HAI := Lib.hid (show aheadP m r = .inr (plainRs 401 [(wwwN, realmT ++ qt ++ charsT)]) by rw [HA7.out, hno]; rfl)
  rw [hon] at HON
  unfold onlyVal authN at HON
  clear hno HA7 HC HL1 HL2 HL3 HOZ HCT hon
  go_enter Tryz.func69, Tryz.ntmps69
  go_wp2_with fail
  refine (HON.out (X3 w (midC m A c) (rqC r FA fc TA tc)) (X3_up hX0)).mono ?_
  rintro e w1 ⟨rfl, hb1⟩
  obtain ⟨⟨⟨m0, m1, m2, m3, m4⟩, a0, a1, a2, a3, a4, a5, a6⟩, ⟨r0, r1, r2, r3⟩, f0, f1, f2, f3⟩ := X3_facts HL.out (Keep.of (D := D) hb1)
  have hz2 := X3_lt hb1
  have hz1 := Nat.lt_of_succ_lt hz2
  have hz0 := Nat.lt_of_succ_lt hz1
  go_wp2_with fail
  refine (HQT.out _).mono ?_
  rintro e w7 ⟨rfl, hbq⟩
  have hb7 := hb1.trans (hbq.mono hb1.size)
  clear m0 m1 m2 m3 m4 a0 a1 a2 a3 a4 a5 a6 r0 r1 r2 r3 f0 f1 f2 f3 hz2 hz1 hz0
  obtain ⟨⟨⟨m0, m1, m2, m3, m4⟩, a0, a1, a2, a3, a4, a5, a6⟩, ⟨r0, r1, r2, r3⟩, f0, f1, f2, f3⟩ := X3_facts HL.out (Keep.of (D := D) hb7)
  have hz2 := X3_lt hb7
  have hz1 := Nat.lt_of_succ_lt hz2
  have hz0 := Nat.lt_of_succ_lt hz1
  have hb8 := hb7.alloc hb7.size (.cells #[.string wwwN, .string (realmT ++ qt ++ charsT)] 59)
  have hrf := row_field w7 wwwN (realmT ++ qt ++ charsT) rfl
  clear hbq
  have HPM := Lib.hid (HPL.out _ _ hrf (HG.out _ (X3_up hb8)))
  unfold wwwN realmT charsT at HPM
  go_wp2_with fail
  refine HPM.out.mono ?_
  rintro e w9 ⟨A1, c1, rfl, ho, hb⟩
  have hbY := hb8.trans (hb.mono hb8.size)
  clear m0 m1 m2 m3 m4 a0 a1 a2 a3 a4 a5 a6 r0 r1 r2 r3 f0 f1 f2 f3 hz2 hz1 hz0
  obtain ⟨⟨⟨r0, r1, r2, r3⟩, f0, f1, f2, f3⟩, hz2⟩ := X3_resF HL.out hX0 (Keep.of hbY)
  have HO := Lib.hid (own_less (b' := (X3 w (midC m A c) (rqC r FA fc TA tc)).heap.size) ho hb8.size)
  have HBW := Lib.hid (X3_up hbY)
  clear ho hb hbY
  go_wp2
  exact bodyPost_ret (v := rsV ⟨401, ⟨#[]⟩, [ctF, (wwwN, realmT ++ qt ++ charsT)], bd⟩ A1 c1) (by simp [results, Tryz.results69, go_sem, rsV, r0, r1, r2, r3]) rfl
   (fin_self (b := w.heap.size + 1 + 1) (x := ⟨401, ⟨#[]⟩, [ctF, (wwwN, realmT ++ qt ++ charsT)], bd⟩) HL.out (X3_below w (midC m A c) (rqC r FA fc TA tc)) (by omega) (by rw [X3_size]; omega) HBW.out HO.out (by rw [HAI.out, HBD.out]) ((show FitS 8 (⟨401, ⟨#[]⟩, [ctF, (wwwN, realmT ++ qt ++ charsT)], bd⟩ : Rs) by rw [← HBD.out]; exact plain_fit 401 (wide_cons wwwN_size (by have h1 : realmT.size = 12 := rfl; have h2 : charsT.size = 17 := rfl; unfold maxLen; show (realmT ++ qt ++ charsT).size ≤ _; rw [ByteArray.size_append, ByteArray.size_append]; omega) wide_nil) (by simp)).more (by have := HN8.out; omega)) _ _ _ _)
 | some s =>
  rw [hon] at HON
  unfold onlyVal authN at HON
  have hsz := HOZ.out s hon
  clear key HL1 HOZ
  have hi5 : (5 : Int) ≤ 6 := by decide
  clear hi5
  have HSM := Lib.hid (fun W => Same_any (s.extract 0 5) basicT W (by unfold maxLen; rw [ByteArray.size_extract]; omega) basicT_size)
  rcases cred_ways s with ⟨h1, hc⟩ | ⟨h1, h2, hc⟩ | ⟨h1, h2, h3, hc⟩ | ⟨h1, h2, h3, hc⟩
  ·skip
   have hno := HL2.out _ hon hc
   have HAI := Lib.hid (show aheadP m r = .inr (plainRs 401 [(wwwN, realmT ++ qt ++ charsT)]) by rw [HA7.out, hno]; rfl)
   clear hno HA7 HC HL2 HL3 HCT hon hc
   have hl5 : decide ((5 : Int) < (s.size : Int)) = false := decide_eq_false (by omega)
   have hl5' : ¬ 5 < s.size := h1
   clear h1 HSM
   go_enter Tryz.func69, Tryz.ntmps69
   go_wp2_with fail
   refine (HON.out (X3 w (midC m A c) (rqC r FA fc TA tc)) (X3_up hX0)).mono ?_
   rintro e w1 ⟨rfl, hb1⟩
   obtain ⟨⟨⟨m0, m1, m2, m3, m4⟩, a0, a1, a2, a3, a4, a5, a6⟩, ⟨r0, r1, r2, r3⟩, f0, f1, f2, f3⟩ := X3_facts HL.out (Keep.of (D := D) hb1)
   have hz2 := X3_lt hb1
   have hz1 := Nat.lt_of_succ_lt hz2
   have hz0 := Nat.lt_of_succ_lt hz1
   go_wp2_with fail
   refine (HQT.out _).mono ?_
   rintro e w7 ⟨rfl, hbq⟩
   have hb7 := hb1.trans (hbq.mono hb1.size)
   clear m0 m1 m2 m3 m4 a0 a1 a2 a3 a4 a5 a6 r0 r1 r2 r3 f0 f1 f2 f3 hz2 hz1 hz0
   obtain ⟨⟨⟨m0, m1, m2, m3, m4⟩, a0, a1, a2, a3, a4, a5, a6⟩, ⟨r0, r1, r2, r3⟩, f0, f1, f2, f3⟩ := X3_facts HL.out (Keep.of (D := D) hb7)
   have hz2 := X3_lt hb7
   have hz1 := Nat.lt_of_succ_lt hz2
   have hz0 := Nat.lt_of_succ_lt hz1
   have hb8 := hb7.alloc hb7.size (.cells #[.string wwwN, .string (realmT ++ qt ++ charsT)] 59)
   have hrf := row_field w7 wwwN (realmT ++ qt ++ charsT) rfl
   clear hbq
   have HPM := Lib.hid (HPL.out _ _ hrf (HG.out _ (X3_up hb8)))
   unfold wwwN realmT charsT at HPM
   go_wp2_with fail
   refine HPM.out.mono ?_
   rintro e w9 ⟨A1, c1, rfl, ho, hb⟩
   have hbY := hb8.trans (hb.mono hb8.size)
   clear m0 m1 m2 m3 m4 a0 a1 a2 a3 a4 a5 a6 r0 r1 r2 r3 f0 f1 f2 f3 hz2 hz1 hz0
   obtain ⟨⟨⟨r0, r1, r2, r3⟩, f0, f1, f2, f3⟩, hz2⟩ := X3_resF HL.out hX0 (Keep.of hbY)
   have HO := Lib.hid (own_less (b' := (X3 w (midC m A c) (rqC r FA fc TA tc)).heap.size) ho hb8.size)
   have HBW := Lib.hid (X3_up hbY)
   clear ho hb hbY
   go_wp2
   exact bodyPost_ret (v := rsV ⟨401, ⟨#[]⟩, [ctF, (wwwN, realmT ++ qt ++ charsT)], bd⟩ A1 c1) (by simp [results, Tryz.results69, go_sem, rsV, r0, r1, r2, r3]) rfl
    (fin_self (b := w.heap.size + 1 + 1) (x := ⟨401, ⟨#[]⟩, [ctF, (wwwN, realmT ++ qt ++ charsT)], bd⟩) HL.out (X3_below w (midC m A c) (rqC r FA fc TA tc)) (by omega) (by rw [X3_size]; omega) HBW.out HO.out (by rw [HAI.out, HBD.out]) ((show FitS 8 (⟨401, ⟨#[]⟩, [ctF, (wwwN, realmT ++ qt ++ charsT)], bd⟩ : Rs) by rw [← HBD.out]; exact plain_fit 401 (wide_cons wwwN_size (by have h1 : realmT.size = 12 := rfl; have h2 : charsT.size = 17 := rfl; unfold maxLen; show (realmT ++ qt ++ charsT).size ≤ _; rw [ByteArray.size_append, ByteArray.size_append]; omega) wide_nil) (by simp)).more (by have := HN8.out; omega)) _ _ _ _)
  ·skip
   have hno := HL2.out _ hon hc
   have HAI := Lib.hid (show aheadP m r = .inr (plainRs 401 [(wwwN, realmT ++ qt ++ charsT)]) by rw [HA7.out, hno]; rfl)
   clear hno HA7 HC HL2 HL3 HCT hon hc
   have hl5 : decide ((5 : Int) < (s.size : Int)) = true := decide_eq_true (by omega)
   have hl6 : (5 : Int) ≤ (s.size : Int) := by omega
   have hl7 : (5 : Int) < (s.size : Int) := by omega
   have hl8 : 5 ≤ s.size := by omega
   rw [h2] at HSM
   unfold basicT at HSM
   clear h2
   go_enter Tryz.func69, Tryz.ntmps69
   go_wp2_with fail
   refine (HON.out (X3 w (midC m A c) (rqC r FA fc TA tc)) (X3_up hX0)).mono ?_
   rintro e w1 ⟨rfl, hb1⟩
   obtain ⟨⟨⟨m0, m1, m2, m3, m4⟩, a0, a1, a2, a3, a4, a5, a6⟩, ⟨r0, r1, r2, r3⟩, f0, f1, f2, f3⟩ := X3_facts HL.out (Keep.of (D := D) hb1)
   have hz2 := X3_lt hb1
   have hz1 := Nat.lt_of_succ_lt hz2
   have hz0 := Nat.lt_of_succ_lt hz1
   go_wp2_with fail
   refine (HSM.out _).mono ?_
   rintro e w2 ⟨rfl, hbs⟩
   have hb2 := hb1.trans (hbs.mono hb1.size)
   clear m0 m1 m2 m3 m4 a0 a1 a2 a3 a4 a5 a6 r0 r1 r2 r3 f0 f1 f2 f3 hz2 hz1 hz0
   obtain ⟨⟨⟨m0, m1, m2, m3, m4⟩, a0, a1, a2, a3, a4, a5, a6⟩, ⟨r0, r1, r2, r3⟩, f0, f1, f2, f3⟩ := X3_facts HL.out (Keep.of (D := D) hb2)
   have hz2 := X3_lt hb2
   have hz1 := Nat.lt_of_succ_lt hz2
   have hz0 := Nat.lt_of_succ_lt hz1
   clear hbs
   go_wp2_with fail
   refine (HQT.out _).mono ?_
   rintro e w7 ⟨rfl, hbq⟩
   have hb7 := hb2.trans (hbq.mono hb2.size)
   clear m0 m1 m2 m3 m4 a0 a1 a2 a3 a4 a5 a6 r0 r1 r2 r3 f0 f1 f2 f3 hz2 hz1 hz0
   obtain ⟨⟨⟨m0, m1, m2, m3, m4⟩, a0, a1, a2, a3, a4, a5, a6⟩, ⟨r0, r1, r2, r3⟩, f0, f1, f2, f3⟩ := X3_facts HL.out (Keep.of (D := D) hb7)
   have hz2 := X3_lt hb7
   have hz1 := Nat.lt_of_succ_lt hz2
   have hz0 := Nat.lt_of_succ_lt hz1
   have hb8 := hb7.alloc hb7.size (.cells #[.string wwwN, .string (realmT ++ qt ++ charsT)] 59)
   have hrf := row_field w7 wwwN (realmT ++ qt ++ charsT) rfl
   clear hbq
   have HPM := Lib.hid (HPL.out _ _ hrf (HG.out _ (X3_up hb8)))
   unfold wwwN realmT charsT at HPM
   go_wp2_with fail
   refine HPM.out.mono ?_
   rintro e w9 ⟨A1, c1, rfl, ho, hb⟩
   have hbY := hb8.trans (hb.mono hb8.size)
   clear m0 m1 m2 m3 m4 a0 a1 a2 a3 a4 a5 a6 r0 r1 r2 r3 f0 f1 f2 f3 hz2 hz1 hz0
   obtain ⟨⟨⟨r0, r1, r2, r3⟩, f0, f1, f2, f3⟩, hz2⟩ := X3_resF HL.out hX0 (Keep.of hbY)
   have HO := Lib.hid (own_less (b' := (X3 w (midC m A c) (rqC r FA fc TA tc)).heap.size) ho hb8.size)
   have HBW := Lib.hid (X3_up hbY)
   clear ho hb hbY
   go_wp2
   exact bodyPost_ret (v := rsV ⟨401, ⟨#[]⟩, [ctF, (wwwN, realmT ++ qt ++ charsT)], bd⟩ A1 c1) (by simp [results, Tryz.results69, go_sem, rsV, r0, r1, r2, r3]) rfl
    (fin_self (b := w.heap.size + 1 + 1) (x := ⟨401, ⟨#[]⟩, [ctF, (wwwN, realmT ++ qt ++ charsT)], bd⟩) HL.out (X3_below w (midC m A c) (rqC r FA fc TA tc)) (by omega) (by rw [X3_size]; omega) HBW.out HO.out (by rw [HAI.out, HBD.out]) ((show FitS 8 (⟨401, ⟨#[]⟩, [ctF, (wwwN, realmT ++ qt ++ charsT)], bd⟩ : Rs) by rw [← HBD.out]; exact plain_fit 401 (wide_cons wwwN_size (by have h1 : realmT.size = 12 := rfl; have h2 : charsT.size = 17 := rfl; unfold maxLen; show (realmT ++ qt ++ charsT).size ≤ _; rw [ByteArray.size_append, ByteArray.size_append]; omega) wide_nil) (by simp)).more (by have := HN8.out; omega)) _ _ _ _)
  ·skip
   have hno := HL2.out _ hon hc
   have HAI := Lib.hid (show aheadP m r = .inr (plainRs 401 [(wwwN, realmT ++ qt ++ charsT)]) by rw [HA7.out, hno]; rfl)
   clear hno HA7 HC HL2 HL3 HCT hon hc
   have hl5 : decide ((5 : Int) < (s.size : Int)) = true := decide_eq_true (by omega)
   have hl6 : (5 : Int) ≤ (s.size : Int) := by omega
   have hl7 : (5 : Int) < (s.size : Int) := by omega
   have hl8 : 5 ≤ s.size := by omega
   rw [h2] at HSM
   unfold basicT at HSM
   have hq := @bt_eq s 5 h1
   have h32 : (bt s 5 == 32) = false := beq_eq_false_iff_ne.2 h3
   clear h2 h3
   go_enter Tryz.func69, Tryz.ntmps69
   go_wp2_with fail
   refine (HON.out (X3 w (midC m A c) (rqC r FA fc TA tc)) (X3_up hX0)).mono ?_
   rintro e w1 ⟨rfl, hb1⟩
   obtain ⟨⟨⟨m0, m1, m2, m3, m4⟩, a0, a1, a2, a3, a4, a5, a6⟩, ⟨r0, r1, r2, r3⟩, f0, f1, f2, f3⟩ := X3_facts HL.out (Keep.of (D := D) hb1)
   have hz2 := X3_lt hb1
   have hz1 := Nat.lt_of_succ_lt hz2
   have hz0 := Nat.lt_of_succ_lt hz1
   go_wp2_with fail
   refine (HSM.out _).mono ?_
   rintro e w2 ⟨rfl, hbs⟩
   have hb2 := hb1.trans (hbs.mono hb1.size)
   clear m0 m1 m2 m3 m4 a0 a1 a2 a3 a4 a5 a6 r0 r1 r2 r3 f0 f1 f2 f3 hz2 hz1 hz0
   obtain ⟨⟨⟨m0, m1, m2, m3, m4⟩, a0, a1, a2, a3, a4, a5, a6⟩, ⟨r0, r1, r2, r3⟩, f0, f1, f2, f3⟩ := X3_facts HL.out (Keep.of (D := D) hb2)
   have hz2 := X3_lt hb2
   have hz1 := Nat.lt_of_succ_lt hz2
   have hz0 := Nat.lt_of_succ_lt hz1
   clear hbs
   go_wp2_with fail
   refine (HQT.out _).mono ?_
   rintro e w7 ⟨rfl, hbq⟩
   have hb7 := hb2.trans (hbq.mono hb2.size)
   clear m0 m1 m2 m3 m4 a0 a1 a2 a3 a4 a5 a6 r0 r1 r2 r3 f0 f1 f2 f3 hz2 hz1 hz0
   obtain ⟨⟨⟨m0, m1, m2, m3, m4⟩, a0, a1, a2, a3, a4, a5, a6⟩, ⟨r0, r1, r2, r3⟩, f0, f1, f2, f3⟩ := X3_facts HL.out (Keep.of (D := D) hb7)
   have hz2 := X3_lt hb7
   have hz1 := Nat.lt_of_succ_lt hz2
   have hz0 := Nat.lt_of_succ_lt hz1
   have hb8 := hb7.alloc hb7.size (.cells #[.string wwwN, .string (realmT ++ qt ++ charsT)] 59)
   have hrf := row_field w7 wwwN (realmT ++ qt ++ charsT) rfl
   clear hbq
   have HPM := Lib.hid (HPL.out _ _ hrf (HG.out _ (X3_up hb8)))
   unfold wwwN realmT charsT at HPM
   go_wp2_with fail
   refine HPM.out.mono ?_
   rintro e w9 ⟨A1, c1, rfl, ho, hb⟩
   have hbY := hb8.trans (hb.mono hb8.size)
   clear m0 m1 m2 m3 m4 a0 a1 a2 a3 a4 a5 a6 r0 r1 r2 r3 f0 f1 f2 f3 hz2 hz1 hz0
   obtain ⟨⟨⟨r0, r1, r2, r3⟩, f0, f1, f2, f3⟩, hz2⟩ := X3_resF HL.out hX0 (Keep.of hbY)
   have HO := Lib.hid (own_less (b' := (X3 w (midC m A c) (rqC r FA fc TA tc)).heap.size) ho hb8.size)
   have HBW := Lib.hid (X3_up hbY)
   clear ho hb hbY
   go_wp2
   exact bodyPost_ret (v := rsV ⟨401, ⟨#[]⟩, [ctF, (wwwN, realmT ++ qt ++ charsT)], bd⟩ A1 c1) (by simp [results, Tryz.results69, go_sem, rsV, r0, r1, r2, r3]) rfl
    (fin_self (b := w.heap.size + 1 + 1) (x := ⟨401, ⟨#[]⟩, [ctF, (wwwN, realmT ++ qt ++ charsT)], bd⟩) HL.out (X3_below w (midC m A c) (rqC r FA fc TA tc)) (by omega) (by rw [X3_size]; omega) HBW.out HO.out (by rw [HAI.out, HBD.out]) ((show FitS 8 (⟨401, ⟨#[]⟩, [ctF, (wwwN, realmT ++ qt ++ charsT)], bd⟩ : Rs) by rw [← HBD.out]; exact plain_fit 401 (wide_cons wwwN_size (by have h1 : realmT.size = 12 := rfl; have h2 : charsT.size = 17 := rfl; unfold maxLen; show (realmT ++ qt ++ charsT).size ≤ _; rw [ByteArray.size_append, ByteArray.size_append]; omega) wide_nil) (by simp)).more (by have := HN8.out; omega)) _ _ _ _)
  ·skip
   have hl5 : decide ((5 : Int) < (s.size : Int)) = true := decide_eq_true (by omega)
   have hl6 : (5 : Int) ≤ (s.size : Int) := by omega
   have hl7 : (5 : Int) < (s.size : Int) := by omega
   have hl8 : 5 ≤ s.size := by omega
   rw [h2] at HSM
   unfold basicT at HSM
   have hq := @bt_eq s 5 h1
   have h32 : (bt s 5 == 32) = true := beq_iff_eq.2 h3
   clear h2 h3
   have HTL := Lib.hid (fun W => Left_any (s.extract 5 s.size) W)
   have HDC := Lib.hid (fun W => Decode_any ⟨(Lib.trimLeftS (s.extract 5 s.size).data.toList [32]).toArray⟩ W (by show (Lib.trimLeftS (s.extract 5 s.size).data.toList [32]).length ≤ _; have h := trim_len (s.extract 5 s.size).data.toList 32; have h2 : (s.extract 5 s.size).data.toList.length = (s.extract 5 s.size).size := rfl; rw [h2, ByteArray.size_extract] at h; omega))
   rw [show (⟨(Lib.trimLeftS (s.extract 5 s.size).data.toList [32]).toArray⟩ : ByteArray).data.toList = Lib.trimLeftS (s.extract 5 s.size).data.toList [32] from rfl] at HDC
   generalize Lib.trimLeftS (s.extract 5 s.size).data.toList [32] = tl at *
   unfold GivesDec at HDC
   cases h64 : b64 tl with
   | none =>
    rw [h64] at hc HDC
    dsimp only [Option.map] at hc HDC
    have hno := HL2.out _ hon hc
    have HAI := Lib.hid (show aheadP m r = .inr (plainRs 401 [(wwwN, realmT ++ qt ++ charsT)]) by rw [HA7.out, hno]; rfl)
    clear hno HA7 HC HL2 HL3 HCT hon hc
    clear h64 HB
    go_enter Tryz.func69, Tryz.ntmps69
    go_wp2_with fail
    refine (HON.out (X3 w (midC m A c) (rqC r FA fc TA tc)) (X3_up hX0)).mono ?_
    rintro e w1 ⟨rfl, hb1⟩
    obtain ⟨⟨⟨m0, m1, m2, m3, m4⟩, a0, a1, a2, a3, a4, a5, a6⟩, ⟨r0, r1, r2, r3⟩, f0, f1, f2, f3⟩ := X3_facts HL.out (Keep.of (D := D) hb1)
    have hz2 := X3_lt hb1
    have hz1 := Nat.lt_of_succ_lt hz2
    have hz0 := Nat.lt_of_succ_lt hz1
    go_wp2_with fail
    refine (HSM.out _).mono ?_
    rintro e w2 ⟨rfl, hbs⟩
    have hb2 := hb1.trans (hbs.mono hb1.size)
    clear m0 m1 m2 m3 m4 a0 a1 a2 a3 a4 a5 a6 r0 r1 r2 r3 f0 f1 f2 f3 hz2 hz1 hz0
    obtain ⟨⟨⟨m0, m1, m2, m3, m4⟩, a0, a1, a2, a3, a4, a5, a6⟩, ⟨r0, r1, r2, r3⟩, f0, f1, f2, f3⟩ := X3_facts HL.out (Keep.of (D := D) hb2)
    have hz2 := X3_lt hb2
    have hz1 := Nat.lt_of_succ_lt hz2
    have hz0 := Nat.lt_of_succ_lt hz1
    clear hbs
    go_wp2_with fail
    refine (HTL.out _).mono ?_
    rintro e w3 ⟨rfl, rfl⟩
    go_wp2_with fail
    refine (HDC.out _).mono ?_
    rintro e w4 ⟨dt, di, dx, rfl, hdx, hbd⟩
    have hb4 := hb2.trans (hbd.mono hb2.size)
    subst hdx
    clear m0 m1 m2 m3 m4 a0 a1 a2 a3 a4 a5 a6 r0 r1 r2 r3 f0 f1 f2 f3 hz2 hz1 hz0
    obtain ⟨⟨⟨m0, m1, m2, m3, m4⟩, a0, a1, a2, a3, a4, a5, a6⟩, ⟨r0, r1, r2, r3⟩, f0, f1, f2, f3⟩ := X3_facts HL.out (Keep.of (D := D) hb4)
    have hz2 := X3_lt hb4
    have hz1 := Nat.lt_of_succ_lt hz2
    have hz0 := Nat.lt_of_succ_lt hz1
    clear hbd
    go_wp2_with fail
    refine (HQT.out _).mono ?_
    rintro e w7 ⟨rfl, hbq⟩
    have hb7 := hb4.trans (hbq.mono hb4.size)
    clear m0 m1 m2 m3 m4 a0 a1 a2 a3 a4 a5 a6 r0 r1 r2 r3 f0 f1 f2 f3 hz2 hz1 hz0
    obtain ⟨⟨⟨m0, m1, m2, m3, m4⟩, a0, a1, a2, a3, a4, a5, a6⟩, ⟨r0, r1, r2, r3⟩, f0, f1, f2, f3⟩ := X3_facts HL.out (Keep.of (D := D) hb7)
    have hz2 := X3_lt hb7
    have hz1 := Nat.lt_of_succ_lt hz2
    have hz0 := Nat.lt_of_succ_lt hz1
    have hb8 := hb7.alloc hb7.size (.cells #[.string wwwN, .string (realmT ++ qt ++ charsT)] 59)
    have hrf := row_field w7 wwwN (realmT ++ qt ++ charsT) rfl
    clear hbq
    have HPM := Lib.hid (HPL.out _ _ hrf (HG.out _ (X3_up hb8)))
    unfold wwwN realmT charsT at HPM
    go_wp2_with fail
    refine HPM.out.mono ?_
    rintro e w9 ⟨A1, c1, rfl, ho, hb⟩
    have hbY := hb8.trans (hb.mono hb8.size)
    clear m0 m1 m2 m3 m4 a0 a1 a2 a3 a4 a5 a6 r0 r1 r2 r3 f0 f1 f2 f3 hz2 hz1 hz0
    obtain ⟨⟨⟨r0, r1, r2, r3⟩, f0, f1, f2, f3⟩, hz2⟩ := X3_resF HL.out hX0 (Keep.of hbY)
    have HO := Lib.hid (own_less (b' := (X3 w (midC m A c) (rqC r FA fc TA tc)).heap.size) ho hb8.size)
    have HBW := Lib.hid (X3_up hbY)
    clear ho hb hbY
    go_wp2
    exact bodyPost_ret (v := rsV ⟨401, ⟨#[]⟩, [ctF, (wwwN, realmT ++ qt ++ charsT)], bd⟩ A1 c1) (by simp [results, Tryz.results69, go_sem, rsV, r0, r1, r2, r3]) rfl
     (fin_self (b := w.heap.size + 1 + 1) (x := ⟨401, ⟨#[]⟩, [ctF, (wwwN, realmT ++ qt ++ charsT)], bd⟩) HL.out (X3_below w (midC m A c) (rqC r FA fc TA tc)) (by omega) (by rw [X3_size]; omega) HBW.out HO.out (by rw [HAI.out, HBD.out]) ((show FitS 8 (⟨401, ⟨#[]⟩, [ctF, (wwwN, realmT ++ qt ++ charsT)], bd⟩ : Rs) by rw [← HBD.out]; exact plain_fit 401 (wide_cons wwwN_size (by have h1 : realmT.size = 12 := rfl; have h2 : charsT.size = 17 := rfl; unfold maxLen; show (realmT ++ qt ++ charsT).size ≤ _; rw [ByteArray.size_append, ByteArray.size_append]; omega) wide_nil) (by simp)).more (by have := HN8.out; omega)) _ _ _ _)
   | some dl =>
    rw [h64] at hc HDC
    dsimp only [Option.map] at hc HDC
    have hlet := HL3.out _ _ hon hc
    have HCS := Lib.hid (fun W h => HCT.out (⟨dl.toArray⟩ : ByteArray) W h)
    clear HL2 HL3 hon hc h64 HCT
    cases hi : isIn m.list (⟨dl.toArray⟩ : ByteArray)
    all_goals
     rw [hi] at hlet HCS
     clear hi
    ·have hno := hlet
     have HAI := Lib.hid (show aheadP m r = .inr (plainRs 401 [(wwwN, realmT ++ qt ++ charsT)]) by rw [HA7.out, hno]; rfl)
     clear hno hlet HA7 HC HB
     go_enter Tryz.func69, Tryz.ntmps69
     go_wp2_with fail
     refine (HON.out (X3 w (midC m A c) (rqC r FA fc TA tc)) (X3_up hX0)).mono ?_
     rintro e w1 ⟨rfl, hb1⟩
     obtain ⟨⟨⟨m0, m1, m2, m3, m4⟩, a0, a1, a2, a3, a4, a5, a6⟩, ⟨r0, r1, r2, r3⟩, f0, f1, f2, f3⟩ := X3_facts HL.out (Keep.of (D := D) hb1)
     have hz2 := X3_lt hb1
     have hz1 := Nat.lt_of_succ_lt hz2
     have hz0 := Nat.lt_of_succ_lt hz1
     go_wp2_with fail
     refine (HSM.out _).mono ?_
     rintro e w2 ⟨rfl, hbs⟩
     have hb2 := hb1.trans (hbs.mono hb1.size)
     clear m0 m1 m2 m3 m4 a0 a1 a2 a3 a4 a5 a6 r0 r1 r2 r3 f0 f1 f2 f3 hz2 hz1 hz0
     obtain ⟨⟨⟨m0, m1, m2, m3, m4⟩, a0, a1, a2, a3, a4, a5, a6⟩, ⟨r0, r1, r2, r3⟩, f0, f1, f2, f3⟩ := X3_facts HL.out (Keep.of (D := D) hb2)
     have hz2 := X3_lt hb2
     have hz1 := Nat.lt_of_succ_lt hz2
     have hz0 := Nat.lt_of_succ_lt hz1
     clear hbs
     go_wp2_with fail
     refine (HTL.out _).mono ?_
     rintro e w3 ⟨rfl, rfl⟩
     go_wp2_with fail
     refine (HDC.out _).mono ?_
     rintro e w4 ⟨dt, di, dx, rfl, ⟨hdx, hdt⟩, hbd⟩
     have hb4 := hb2.trans (hbd.mono hb2.size)
     subst hdx
     subst hdt
     clear m0 m1 m2 m3 m4 a0 a1 a2 a3 a4 a5 a6 r0 r1 r2 r3 f0 f1 f2 f3 hz2 hz1 hz0
     obtain ⟨⟨⟨m0, m1, m2, m3, m4⟩, a0, a1, a2, a3, a4, a5, a6⟩, ⟨r0, r1, r2, r3⟩, f0, f1, f2, f3⟩ := X3_facts HL.out (Keep.of (D := D) hb4)
     have hz2 := X3_lt hb4
     have hz1 := Nat.lt_of_succ_lt hz2
     have hz0 := Nat.lt_of_succ_lt hz1
     clear hbd
     go_wp2_with fail
     refine (HCS.out _ (X3_up hb4)).mono ?_
     rintro e w5 ⟨rfl, rfl⟩
     go_wp2_with fail
     refine (HQT.out _).mono ?_
     rintro e w7 ⟨rfl, hbq⟩
     have hb7 := hb4.trans (hbq.mono hb4.size)
     clear m0 m1 m2 m3 m4 a0 a1 a2 a3 a4 a5 a6 r0 r1 r2 r3 f0 f1 f2 f3 hz2 hz1 hz0
     obtain ⟨⟨⟨m0, m1, m2, m3, m4⟩, a0, a1, a2, a3, a4, a5, a6⟩, ⟨r0, r1, r2, r3⟩, f0, f1, f2, f3⟩ := X3_facts HL.out (Keep.of (D := D) hb7)
     have hz2 := X3_lt hb7
     have hz1 := Nat.lt_of_succ_lt hz2
     have hz0 := Nat.lt_of_succ_lt hz1
     have hb8 := hb7.alloc hb7.size (.cells #[.string wwwN, .string (realmT ++ qt ++ charsT)] 59)
     have hrf := row_field w7 wwwN (realmT ++ qt ++ charsT) rfl
     clear hbq
     have HPM := Lib.hid (HPL.out _ _ hrf (HG.out _ (X3_up hb8)))
     unfold wwwN realmT charsT at HPM
     go_wp2_with fail
     refine HPM.out.mono ?_
     rintro e w9 ⟨A1, c1, rfl, ho, hb⟩
     have hbY := hb8.trans (hb.mono hb8.size)
     clear m0 m1 m2 m3 m4 a0 a1 a2 a3 a4 a5 a6 r0 r1 r2 r3 f0 f1 f2 f3 hz2 hz1 hz0
     obtain ⟨⟨⟨r0, r1, r2, r3⟩, f0, f1, f2, f3⟩, hz2⟩ := X3_resF HL.out hX0 (Keep.of hbY)
     have HO := Lib.hid (own_less (b' := (X3 w (midC m A c) (rqC r FA fc TA tc)).heap.size) ho hb8.size)
     have HBW := Lib.hid (X3_up hbY)
     clear ho hb hbY
     go_wp2
     exact bodyPost_ret (v := rsV ⟨401, ⟨#[]⟩, [ctF, (wwwN, realmT ++ qt ++ charsT)], bd⟩ A1 c1) (by simp [results, Tryz.results69, go_sem, rsV, r0, r1, r2, r3]) rfl
      (fin_self (b := w.heap.size + 1 + 1) (x := ⟨401, ⟨#[]⟩, [ctF, (wwwN, realmT ++ qt ++ charsT)], bd⟩) HL.out (X3_below w (midC m A c) (rqC r FA fc TA tc)) (by omega) (by rw [X3_size]; omega) HBW.out HO.out (by rw [HAI.out, HBD.out]) ((show FitS 8 (⟨401, ⟨#[]⟩, [ctF, (wwwN, realmT ++ qt ++ charsT)], bd⟩ : Rs) by rw [← HBD.out]; exact plain_fit 401 (wide_cons wwwN_size (by have h1 : realmT.size = 12 := rfl; have h2 : charsT.size = 17 := rfl; unfold maxLen; show (realmT ++ qt ++ charsT).size ≤ _; rw [ByteArray.size_append, ByteArray.size_append]; omega) wide_nil) (by simp)).more (by have := HN8.out; omega)) _ _ _ _)
    ·have HAI := Lib.hid (show aheadP m r = .inl r by rw [HA7.out, hlet]; rfl)
     clear hlet HA7 HPL HBD HQT
     go_enter Tryz.func69, Tryz.ntmps69
     go_wp2_with fail
     refine (HON.out (X3 w (midC m A c) (rqC r FA fc TA tc)) (X3_up hX0)).mono ?_
     rintro e w1 ⟨rfl, hb1⟩
     obtain ⟨⟨⟨m0, m1, m2, m3, m4⟩, a0, a1, a2, a3, a4, a5, a6⟩, ⟨r0, r1, r2, r3⟩, f0, f1, f2, f3⟩ := X3_facts HL.out (Keep.of (D := D) hb1)
     have hz2 := X3_lt hb1
     have hz1 := Nat.lt_of_succ_lt hz2
     have hz0 := Nat.lt_of_succ_lt hz1
     go_wp2_with fail
     refine (HSM.out _).mono ?_
     rintro e w2 ⟨rfl, hbs⟩
     have hb2 := hb1.trans (hbs.mono hb1.size)
     clear m0 m1 m2 m3 m4 a0 a1 a2 a3 a4 a5 a6 r0 r1 r2 r3 f0 f1 f2 f3 hz2 hz1 hz0
     obtain ⟨⟨⟨m0, m1, m2, m3, m4⟩, a0, a1, a2, a3, a4, a5, a6⟩, ⟨r0, r1, r2, r3⟩, f0, f1, f2, f3⟩ := X3_facts HL.out (Keep.of (D := D) hb2)
     have hz2 := X3_lt hb2
     have hz1 := Nat.lt_of_succ_lt hz2
     have hz0 := Nat.lt_of_succ_lt hz1
     clear hbs
     go_wp2_with fail
     refine (HTL.out _).mono ?_
     rintro e w3 ⟨rfl, rfl⟩
     go_wp2_with fail
     refine (HDC.out _).mono ?_
     rintro e w4 ⟨dt, di, dx, rfl, ⟨hdx, hdt⟩, hbd⟩
     have hb4 := hb2.trans (hbd.mono hb2.size)
     subst hdx
     subst hdt
     clear m0 m1 m2 m3 m4 a0 a1 a2 a3 a4 a5 a6 r0 r1 r2 r3 f0 f1 f2 f3 hz2 hz1 hz0
     obtain ⟨⟨⟨m0, m1, m2, m3, m4⟩, a0, a1, a2, a3, a4, a5, a6⟩, ⟨r0, r1, r2, r3⟩, f0, f1, f2, f3⟩ := X3_facts HL.out (Keep.of (D := D) hb4)
     have hz2 := X3_lt hb4
     have hz1 := Nat.lt_of_succ_lt hz2
     have hz0 := Nat.lt_of_succ_lt hz1
     clear hbd
     go_wp2_with fail
     refine (HCS.out _ (X3_up hb4)).mono ?_
     rintro e w5 ⟨rfl, rfl⟩
     go_wp2_with fail
     refine (HC.out _ (X3_up hb4)).mono ?_
     rintro e w9 ⟨y, A1, c1, rfl, hrow, hfit, hTT, hk⟩
     clear m0 m1 m2 m3 m4 a0 a1 a2 a3 a4 a5 a6 r0 r1 r2 r3 f0 f1 f2 f3 hz2 hz1 hz0
     obtain ⟨⟨⟨r0, r1, r2, r3⟩, f0, f1, f2, f3⟩, hz2⟩ := X3_resF HL.out hb4 hk
     have HE := Lib.hid (fin_pass (F := behindP m r) (b := w.heap.size + 1 + 1) (M := N + 2) HN0.out (X3_up hb4) (by omega) (X3_lt hb4) hrow hfit (by omega) hTT hk (HB.out y) (.int .i64 y.status) (.string y.reason) (.slice A1 y.fields.length c1) (.string y.body))
     clear hrow hfit hTT hk HC
     unfold rsV at *
     go_wp2
     exact bodyPost_ret (v := rsV y A1 c1) (by simp [results, Tryz.results69, go_sem, rsV, r0, r1, r2, r3]) rfl (HE.out.imp (Nat.le_refl _) fun _ _ _ h => doT_inl HAI.out h)
end Go.Proofs.YtbnafbdhomdcoaaGreatDoor
