/-
  RouteFirst: the walk.
-/
import Derived.Test.YtiohmnhbmmhnhaaGreatDoorRtMd
namespace Go.Proofs.YtiohmnhbmmhnhaaGreatDoor
open Go.RowKit Go.Shelf Go.Lib

set_option maxRecDepth 100000 in
set_option maxHeartbeats 4000000 in
theorem RouteFirst_walk (A : Option Addr) (c : Nat) (la : List Ra) (q : ByteArray × ByteArray) (w : World) (hr : Row w A (flatA la)) (hm : AOk w la) (hk : bulkRt (plA la) + (q.1.size + q.2.size + 3) ≤ 1048576) (hg : GlobR w) :
    Calls Tryz.prog 5 #[.slice A la.length c, (.agg #[.string q.1, .string q.2] : Value)] w fun e w' => e = .returned (.bool true) ∧ Below w.heap.size w w' := by
  obtain ⟨qm, qp⟩ := q
  dsimp only at hk
  have hlen4 := bulkRt_len (plA la)
  rw [plA_length] at hlen4
  have hlen5 : la.length ≤ 262144 := by omega
  have hqp : qp.size ≤ 1048576 := by omega
  have hfd := run_fieldM
  show Calls Tryz.prog 5 #[.slice A la.length c, .agg #[.string qm, .string qp]] w fun e w' => e = .returned (.bool true) ∧ Below w.heap.size w w'
  have HB0 : Hid (Below w.heap.size w (w.alloc (.cells #[.string qm, .string qp] 42))) := Lib.hid ((Below.refl _ w).alloc (Nat.le_refl _) _)
  have HR := Lib.hid (fun (W : World) (h : Below (w.alloc (.cells #[.string qm, .string qp] 42)).heap.size (w.alloc (.cells #[.string qm, .string qp] 42)) W) => (hr.below HB0.out).below h)
  have HM := Lib.hid (fun (W : World) (h : Below (w.alloc (.cells #[.string qm, .string qp] 42)).heap.size (w.alloc (.cells #[.string qm, .string qp] 42)) W) => (hm.below HB0.out).below h)
  have HG := Lib.hid (fun (W : World) (h : Below (w.alloc (.cells #[.string qm, .string qp] 42)).heap.size (w.alloc (.cells #[.string qm, .string qp] 42)) W) => (hg.beyond HB0.out).beyond h)
  have HK := Lib.hid (show bulkRt (plA la) ≤ 1048576 by omega)
  have HQ := Lib.hid (fun (W : World) (h : Below (w.alloc (.cells #[.string qm, .string qp] 42)).heap.size (w.alloc (.cells #[.string qm, .string qp] 42)) W) => (show W.cell? ⟨w.heap.size, 0, none⟩ = some (.string qm) ∧ W.cell? ⟨w.heap.size, 1, none⟩ = some (.string qp) ∧ w.heap.size < W.heap.size from
    have hN : Blk (w.alloc (.cells #[.string qm, .string qp] 42)) w.heap.size 42 #[.string qm, .string qp] := Blk.new w _ _
    ⟨by rw [h.cell (p := ⟨w.heap.size, 0, none⟩) hN.lt]; exact hN.cell 0, by rw [h.cell (p := ⟨w.heap.size, 1, none⟩) hN.lt]; exact hN.cell 1, Nat.lt_of_lt_of_le hN.lt h.size⟩))
  have HAW := Lib.hid (awake_any (w.alloc (.cells #[.string qm, .string qp] 42)) (hg.beyond HB0.out))
  clear hr hm hg hk
  go_enter Tryz.func5, Tryz.ntmps5
  go_wp2_with fail
  generalize w.alloc (.cells #[.string qm, .string qp] 42) = w0 at *
  refine HAW.out.mono ?_
  rintro e w1 ⟨rfl, hb1⟩
  have HB1 := Lib.hid hb1
  have HMA := Lib.hid (made_any A c la true w1 (HR.out w1 hb1) (HM.out w1 hb1) HK.out (HG.out w1 hb1))
  clear hb1 HAW
  go_wp2_with fail
  refine HMA.out.mono ?_
  rintro e w2 (⟨_, rfl, hb2⟩ | ⟨_, t, rfl, _, hT, hb2⟩)
  · have HB2 := Lib.hid (HB1.out.trans (hb2.mono HB1.out.size))
    clear hb2 HMA
    go_wp2
    go_ret
    exact ⟨rfl, HB0.out.trans (HB2.out.mono HB0.out.size)⟩
  · have HB2 := Lib.hid (HB1.out.trans (hb2.mono HB1.out.size))
    obtain ⟨q0, q1, qlt⟩ := HQ.out w2 HB2.out
    have HT := Lib.hid hT
    have HMT := Lib.hid (Match_any t true (plA la) qm qp w2 hT (by omega) (HG.out w2 HB2.out))
    have HL := Lib.hid (first_law hT qm qp)
    have HF := Lib.hid (fun (x : ByteArray) => @first_pat w2 t (plA la) hT qm qp x)
    clear hb2 HMA hT
    generalize matchP (plA la) true qm qp = m at *
    obtain ⟨mk, mr, mp, mpar, mal, md⟩ := m
    go_wp2_with fail
    refine HMT.out.mono ?_
    rintro e w3 ⟨PA, pc, AA, ac, rfl, hop, hoa, hb3⟩
    dsimp only at hop hoa ⊢
    have hb4 : Below w3.heap.size w3 (w3.alloc (.cells #[.int .i64 mk, .int .i64 mr, .string mp, .slice PA mpar.length pc, .slice AA mal.length ac, .string md] 47)) := (Below.refl _ _).alloc (Nat.le_refl _) _
    have hN4 : Blk (w3.alloc (.cells #[.int .i64 mk, .int .i64 mr, .string mp, .slice PA mpar.length pc, .slice AA mal.length ac, .string md] 47)) w3.heap.size 47 #[.int .i64 mk, .int .i64 mr, .string mp, .slice PA mpar.length pc, .slice AA mal.length ac, .string md] := Blk.new w3 _ _
    have HN4 := Lib.hid hN4
    have HA4 := Lib.hid ((own_row hoa).below hb4)
    have HB4 := Lib.hid (HB2.out.trans ((hb3.trans (hb4.mono hb3.size)).mono HB2.out.size))
    have HT4 := Lib.hid ((HT.out.below hb3).below hb4)
    have hml := own_max hoa
    unfold maxLen at hml
    clear hop hoa hb3 hb4 hN4 HMT q0 q1 qlt HT
    go_wp2
    generalize (w3.alloc (.cells #[.int .i64 mk, .int .i64 mr, .string mp, .slice PA mpar.length pc, .slice AA mal.length ac, .string md] 47)) = w4 at *
    have HC4 := Lib.hid (fun (W : World) (h : Below w4.heap.size w4 W) => (show W.cell? ⟨w3.heap.size, 0, none⟩ = some (.int .i64 mk) ∧ W.cell? ⟨w3.heap.size, 1, none⟩ = some (.int .i64 mr) ∧ W.cell? ⟨w3.heap.size, 2, none⟩ = some (.string mp) ∧ W.cell? ⟨w3.heap.size, 4, none⟩ = some (.slice AA mal.length ac) ∧ W.cell? ⟨w3.heap.size, 5, none⟩ = some (.string md) ∧ w3.heap.size < W.heap.size from
      ⟨by rw [h.cell (p := ⟨w3.heap.size, 0, none⟩) HN4.out.lt]; exact HN4.out.cell 0, by rw [h.cell (p := ⟨w3.heap.size, 1, none⟩) HN4.out.lt]; exact HN4.out.cell 1, by rw [h.cell (p := ⟨w3.heap.size, 2, none⟩) HN4.out.lt]; exact HN4.out.cell 2, by rw [h.cell (p := ⟨w3.heap.size, 4, none⟩) HN4.out.lt]; exact HN4.out.cell 4, by rw [h.cell (p := ⟨w3.heap.size, 5, none⟩) HN4.out.lt]; exact HN4.out.cell 5, Nat.lt_of_lt_of_le HN4.out.lt h.size⟩))
    have HBW := Lib.hid (fun (W : World) (h : Below w4.heap.size w4 W) => HB4.out.trans (h.mono HB4.out.size))
    clear HN4
    go_loopw [9, 43] (fun v i wr => ∃ (k n : Nat), k ≤ la.length ∧ n ≤ k ∧ v = .int .i64 n ∧ i = .int .i64 k ∧ Hid (n = 0 ↔ ∀ r ∈ (plA la).take k, fitT qp r.2 = false) ∧ Hid (Below w4.heap.size w4 wr)) (fun _ i _ => la.length - (RowKit.intOf i).toNat)
    case atStart => exact ⟨0, 0, by omega, by omega, rfl, rfl, Lib.hid ⟨fun _ r hr => (by cases hr), fun _ => rfl⟩, Lib.hid (Below.refl _ _)⟩
    case round =>
      obtain ⟨k, n, hkl, hnk, rfl, rfl, HN, HB⟩ := hrel
      by_cases hlt : k < la.length
      · obtain ⟨x, hx⟩ := some_of_lt hlt
        have HPX := Lib.hid (plA_get hx)
        have HSX := slim_mem HK.out (List.mem_of_getElem? HPX.out)
        obtain ⟨b, off, rfl, hbl, f0, f1, f2, f3, f4, f5, f6, f7, f8⟩ := (HR.out wr (HBW.out wr HB.out)).ra hx
        have hki : (k : Int) < (la.length : Int) := by omega
        clear hx
        obtain ⟨⟨⟨MA, mc⟩, ml, p⟩, XT⟩ := x
        dsimp only at f0 f1 f2 f3 f4 f5 f6 f7 f8 HSX HPX
        have hps := HSX.pat
        dsimp only at hps
        have hb5 : Below wr.heap.size wr (wr.alloc (.cells #[.slice MA ml.length mc, .string p, .slice XT.A XT.n XT.c, .int .i64 XT.k, .string XT.x, .string XT.y, .string XT.z, .int .i64 XT.s, .int .i64 XT.m] 38)) := (Below.refl _ _).alloc (Nat.le_refl _) _
        have hN5 : Blk (wr.alloc (.cells #[.slice MA ml.length mc, .string p, .slice XT.A XT.n XT.c, .int .i64 XT.k, .string XT.x, .string XT.y, .string XT.z, .int .i64 XT.s, .int .i64 XT.m] 38)) wr.heap.size 38 #[.slice MA ml.length mc, .string p, .slice XT.A XT.n XT.c, .int .i64 XT.k, .string XT.x, .string XT.y, .string XT.z, .int .i64 XT.s, .int .i64 XT.m] := Blk.new wr _ _
        have HB5 := Lib.hid (HB.out.trans (hb5.mono HB.out.size))
        have HN5 := Lib.hid hN5
        obtain ⟨q0, q1, qlt⟩ := HQ.out _ (HBW.out _ HB5.out)
        have r1 : (wr.alloc (.cells #[.slice MA ml.length mc, .string p, .slice XT.A XT.n XT.c, .int .i64 XT.k, .string XT.x, .string XT.y, .string XT.z, .int .i64 XT.s, .int .i64 XT.m] 38)).cell? ⟨wr.heap.size, 1, none⟩ = some (.string p) := hN5.cell 1
        have HFT := Lib.hid (Fits_any p qp (wr.alloc (.cells #[.slice MA ml.length mc, .string p, .slice XT.A XT.n XT.c, .int .i64 XT.k, .string XT.x, .string XT.y, .string XT.z, .int .i64 XT.s, .int .i64 XT.m] 38)) (by omega) (by omega) (HG.out _ (HBW.out _ HB5.out)).g)
        clear hb5 hN5 HSX
        go_wp2_with fail
        generalize (wr.alloc (.cells #[.slice MA ml.length mc, .string p, .slice XT.A XT.n XT.c, .int .i64 XT.k, .string XT.x, .string XT.y, .string XT.z, .int .i64 XT.s, .int .i64 XT.m] 38)) = w5 at *
        refine HFT.out.mono ?_
        rintro e w6 ⟨FA, fc, rfl, _, hb6⟩
        have HB6 := Lib.hid (HB5.out.trans (hb6.mono HB5.out.size))
        have hfv : (fitVal (fitsP p qp)).2 = fitT qp p := rfl
        rw [hfv]
        have hpl : p ∈ (plA la).map (·.2) := List.mem_map.2 ⟨_, List.mem_of_getElem? HPX.out, rfl⟩
        have HPL := Lib.hid hpl
        have r1' : w6.cell? ⟨wr.heap.size, 1, none⟩ = some (.string p) := by rw [hb6.cell (p := ⟨wr.heap.size, 1, none⟩) HN5.out.lt]; exact r1
        have rlt : wr.heap.size < w6.heap.size := Nat.lt_of_lt_of_le HN5.out.lt hb6.size
        clear hb6 HFT q0 q1 qlt hfv hpl r1
        have HTK := Lib.hid (show ∀ r, r ∈ (plA la).take (k + 1) ↔ r ∈ (plA la).take k ∨ r = (ml, p) from fun r => by rw [take_snoc HPX.out, List.mem_append, List.mem_singleton])
        cases hfit : fitT qp p
        · have HN' := Lib.hid (show n = 0 ↔ ∀ r ∈ (plA la).take (k + 1), fitT qp r.2 = false from
            ⟨fun h r hr => by
              rcases (HTK.out r).1 hr with h2 | h2
              · exact HN.out.1 h r h2
              · rw [h2]; exact hfit, fun h => HN.out.2 fun r hr => h r ((HTK.out r).2 (.inl hr))⟩)
          clear HN hfit
          go_wp2
          go_roundw
          case rel => exact ⟨k + 1, n, by omega, by omega, rfl, by go_num, HN', HB6⟩
          case measure => simp [RowKit.intOf]; omega
        · have HN' := Lib.hid (show n + 1 = 0 ↔ ∀ r ∈ (plA la).take (k + 1), fitT qp r.2 = false from
            ⟨fun h => absurd h (by omega), fun h => by
              have := h (ml, p) ((HTK.out _).2 (.inr rfl))
              rw [show ((ml, p) : Rt).2 = p from rfl, hfit] at this
              cases this⟩)
          obtain ⟨hz1, hz3, z, hcz, hz2⟩ := HF.out p HPL.out hfit
          obtain ⟨m0, m1, m2, m4, m5, mlt⟩ := HC4.out w6 HB6.out
          have HCM := Lib.hid (by have := Cmp_any p mp w6 (by omega) (by omega); rw [hcz] at this; exact this)
          have hne : (mp.toList == ([] : List UInt8)) = false := empty_test hz1
          have hzz : ¬ z < 0 := by omega
          clear HN hfit hcz
          go_wp2_with fail
          refine HCM.out.mono ?_
          rintro e w7 ⟨rfl, hb7⟩
          have HB7 := Lib.hid (HB6.out.trans (hb7.mono HB6.out.size))
          clear hb7
          unfold chkVal
          dsimp only
          go_wp2
          go_roundw
          case rel => exact ⟨k + 1, n + 1, by omega, by omega, by go_num, by go_num, HN', HB7⟩
          case measure => simp [RowKit.intOf]; omega
      · obtain rfl : k = la.length := by omega
        have HNF := Lib.hid (show n = 0 ↔ NoFit (plA la) qp by have := HN.out; rw [← plA_length la, List.take_length] at this; exact this)
        obtain ⟨q0, q1, qlt⟩ := HQ.out wr (HBW.out wr HB.out)
        obtain ⟨m0, m1, m2, m4, m5, mlt⟩ := HC4.out wr HB.out
        have HSN := Lib.hid (fun (h : SomeFit (plA la) qp) => show 0 < n from by
          obtain ⟨r, hr, hf⟩ := h
          rcases Nat.eq_zero_or_pos n with h0 | h0
          · have := HNF.out.1 h0 r hr
            rw [hf] at this
            cases this
          · exact h0)
        clear HN HF
        rcases HL.out with ⟨hk0, hno⟩ | ⟨hk4, hno, hd, hds, hkk⟩ | ⟨hk1, hsf, j, r, hj, hrj, hrp⟩ | ⟨hkm, hsf, hal, hall⟩
        · dsimp only at hk0
          subst hk0
          have hn0 : ((n : Int) == 0) = true := beq_iff_eq.2 (by have := HNF.out.2 hno; omega)
          clear hno
          go_wp2
          go_ret
          exact ⟨rfl, HB0.out.trans ((HBW.out wr HB.out).mono HB0.out.size)⟩
        · dsimp only at hk4 hd hds hkk
          subst hk4
          have hn0 : ((n : Int) == 0) = true := beq_iff_eq.2 (by have := HNF.out.2 hno; omega)
          have HM2 := Lib.hid (Match_any t true (plA la) qm md wr (HT4.out.below HB.out) (by omega) (HG.out wr (HBW.out wr HB.out)))
          generalize matchP (plA la) true qm md = m2 at *
          obtain ⟨k2, r2, p2, par2, al2, d2⟩ := m2
          dsimp only at hkk
          have hdd : (md.toList == qp.toList) = false := (eq_str md qp).trans (decide_eq_false hd)
          have h20 : (k2 != 0) = true := by rcases hkk with h | h | h <;> rw [h] <;> rfl
          have h24 : (k2 != 4) = true := by rcases hkk with h | h | h <;> rw [h] <;> rfl
          clear hno hd hds hkk HL
          go_wp2_with fail
          refine HM2.out.mono ?_
          rintro e w8 ⟨PA2, pc2, AA2, ac2, rfl, _, _, hb8⟩
          have HB8 := Lib.hid (HB.out.trans (hb8.mono HB.out.size))
          obtain ⟨q0', q1', qlt'⟩ := HQ.out w8 (HBW.out w8 HB8.out)
          obtain ⟨m0', m1', m2', m4', m5', mlt'⟩ := HC4.out w8 HB8.out
          clear hb8 q0 q1 qlt m0 m1 m2 m4 m5 mlt
          dsimp only
          go_wp2
          go_ret
          exact ⟨rfl, HB0.out.trans ((HBW.out w8 HB8.out).mono HB0.out.size)⟩
        · dsimp only at hk1 hj hrp
          subst hk1
          subst hj
          have hjl : j < la.length := by have := lt_of_some hrj; rwa [plA_length] at this
          obtain ⟨x, hx⟩ := some_of_lt hjl
          have hxp : x.1.2.2 = mp := by
            have h1 := plA_get hx
            rw [hrj] at h1
            injection h1 with h1
            rw [← h1]
            exact hrp
          obtain ⟨b, off, rfl, hbl, f0, f1, _⟩ := (HR.out wr (HBW.out wr HB.out)).ra hx
          rw [hxp] at f1
          have hn2 : 0 < n := HSN.out hsf
          have hn1 : 0 < (n : Int) := by omega
          have hjk : (j : Int) < (la.length : Int) := by omega
          have hmm : (mp.toList == mp.toList) = true := by simp
          clear hx hrj hrp hxp hsf f0 HL
          go_wp2_with fail
          go_quiet (fail)
          go_wp2
          go_ret
          exact ⟨rfl, below_drewN (HB0.out.trans ((HBW.out wr HB.out).mono HB0.out.size)) _⟩
        · dsimp only at hkm hal hall
          have hn2 : 0 < n := HSN.out hsf
          have hn1 : 0 < (n : Int) := by omega
          have hal1 : 0 < (mal.length : Int) := by omega
          have k0 : (mk == 0) = false := by rcases hkm with ⟨h, _⟩ | ⟨h, _⟩ <;> rw [h] <;> rfl
          have k4 : (mk == 4) = false := by rcases hkm with ⟨h, _⟩ | ⟨h, _⟩ <;> rw [h] <;> rfl
          have k1 : (mk == 1) = false := by rcases hkm with ⟨h, _⟩ | ⟨h, _⟩ <;> rw [h] <;> rfl
          obtain ⟨bb, k3, ko⟩ : ∃ bb : Bool, (mk == 3) = bb ∧ (qm.toList == [79, 80, 84, 73, 79, 78, 83]) = bb := by
            rcases hkm with ⟨h, h2⟩ | ⟨h, h2⟩
            · exact ⟨false, by rw [h]; rfl, by rw [opt_test]; exact decide_eq_false h2⟩
            · exact ⟨true, by rw [h]; rfl, by rw [opt_test]; exact decide_eq_true h2⟩
          have hbb : (bb == bb) = true := by simp
          have HALL := Lib.hid hall
          clear hkm hsf hal hall HL
          go_wp2_with fail
          obtain ⟨xo, hxo⟩ : ∃ xo : World, xo = wr := ⟨_, rfl⟩
          subst hxo
          go_loopw [139] (fun i wr => ∃ k : Nat, k ≤ mal.length ∧ i = .int .i64 k ∧ Hid (Below w4.heap.size w4 wr)) (fun i _ => mal.length - (RowKit.intOf i).toNat)
          case atStart => exact ⟨0, by omega, rfl, Lib.hid HB.out⟩
          case round =>
            obtain ⟨k, hkl, rfl, HB'⟩ := hrel
            obtain ⟨q0', q1', qlt'⟩ := HQ.out wr (HBW.out wr HB'.out)
            obtain ⟨m0', m1', m2', m4', m5', mlt'⟩ := HC4.out wr HB'.out
            clear q0 q1 qlt m0 m1 m2 m4 m5 mlt
            by_cases hlt : k < mal.length
            · obtain ⟨s, hs⟩ := some_of_lt hlt
              obtain ⟨hs1, hs2⟩ := HALL.out s (List.mem_of_getElem? hs)
              obtain ⟨b, off, rfl, hbl, h0⟩ := (HA4.out.below HB'.out).str hs
              have hki : (k : Int) < (mal.length : Int) := by omega
              have HMS := Lib.hid (Match_any t true (plA la) s qp wr (HT4.out.below HB'.out) (by omega) (HG.out wr (HBW.out wr HB'.out)))
              generalize matchP (plA la) true s qp = m3 at *
              obtain ⟨k3', r3, p3, par3, al3, d3⟩ := m3
              dsimp only at hs1
              clear hs
              go_wp2_with fail
              refine HMS.out.mono ?_
              rintro e w8 ⟨PA2, pc2, AA2, ac2, rfl, _, _, hb8⟩
              have HB8 := Lib.hid (HB'.out.trans (hb8.mono HB'.out.size))
              obtain ⟨q0, q1, qlt⟩ := HQ.out w8 (HBW.out w8 HB8.out)
              clear hb8 q0' q1' qlt' m0' m1' m2' m4' m5' mlt' HMS
              dsimp only
              have hcs : ((s.toList == [79, 80, 84, 73, 79, 78, 83]) = true ∧ (k3' != 1) = false) ∨ ((s.toList == [79, 80, 84, 73, 79, 78, 83]) = true ∧ (k3' != 1) = true ∧ (k3' != 3) = false) ∨ ((s.toList == [79, 80, 84, 73, 79, 78, 83]) = false ∧ (k3' != 1) = false ∧ (s.toList == qm.toList) = false) := by
                rw [opt_test]
                by_cases ho : s = mOpt
                · rcases hs1 with h | ⟨_, h⟩
                  · exact .inl ⟨decide_eq_true ho, by rw [h]; rfl⟩
                  · exact .inr (.inl ⟨decide_eq_true ho, by rw [h]; rfl, by rw [h]; rfl⟩)
                · rcases hs1 with h | ⟨h, _⟩
                  · exact .inr (.inr ⟨decide_eq_false ho, by rw [h]; rfl, (eq_str s qm).trans (decide_eq_false fun e => ho (hs2 e))⟩)
                  · exact absurd h ho
              have HCS := Lib.hid hcs
              clear hcs hs1 hs2
              rcases HCS.out with ⟨h1, h2⟩ | ⟨h1, h2, h3⟩ | ⟨h1, h2, h3⟩
              · cases hq : (s.toList == qm.toList)
                all_goals
                  go_wp2
                  go_roundw
                  case rel => exact ⟨k + 1, by omega, by go_num, HB8⟩
                  case measure => simp [RowKit.intOf]; omega
              · cases hq : (s.toList == qm.toList)
                all_goals
                  go_wp2
                  go_roundw
                  case rel => exact ⟨k + 1, by omega, by go_num, HB8⟩
                  case measure => simp [RowKit.intOf]; omega
              · go_wp2
                go_roundw
                case rel => exact ⟨k + 1, by omega, by go_num, HB8⟩
                case measure => simp [RowKit.intOf]; omega
            · obtain rfl : k = mal.length := by omega
              go_wp2
              go_ret
              exact ⟨rfl, HB0.out.trans ((HBW.out wr HB'.out).mono HB0.out.size)⟩
end Go.Proofs.YtiohmnhbmmhnhaaGreatDoor
