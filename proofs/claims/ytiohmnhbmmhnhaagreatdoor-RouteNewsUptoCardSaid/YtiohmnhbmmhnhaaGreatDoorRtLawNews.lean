/-
  RouteNews: the walk.
-/
import Derived.Test.YtiohmnhbmmhnhaaGreatDoorRtL
namespace Go.Proofs.YtiohmnhbmmhnhaaGreatDoor
open Go.RowKit Go.Shelf Go.Lib

set_option maxRecDepth 100000 in
set_option maxHeartbeats 4000000 in
theorem RouteNews_walk (A : Option Addr) (c : Nat) (la : List Ra) (sl : Bool) (w : World) (hr : Row w A (flatA la)) (hm : AOk w la) (hk : bulkRt (plA la) + 0 ≤ 1048576) (hg : GlobR w) :
    Calls Tryz.prog 3 #[.slice A la.length c, .bool sl] w fun e w' => e = .returned (.bool true) ∧ Below w.heap.size w w' := by
  have hlen4 := bulkRt_len (plA la)
  rw [plA_length] at hlen4
  have hlen5 : la.length ≤ 262144 := by omega
  have HR := Lib.hid (fun (W : World) (h : Below w.heap.size w W) => hr.below h)
  have HM := Lib.hid (fun (W : World) (h : Below w.heap.size w W) => hm.below h)
  have HK := Lib.hid (show bulkRt (plA la) ≤ 1048576 by omega)
  have HG := Lib.hid (fun (W : World) (h : Below w.heap.size w W) => hg.beyond h)
  have HAW := Lib.hid (awake_any w hg)
  have HS := Lib.hid (new_same (plA la))
  clear hr hm hk hg
  go_enter Tryz.func3, Tryz.ntmps3
  go_wp2_with fail
  refine HAW.out.mono ?_
  rintro e w1 ⟨rfl, hb1⟩
  have HB1 := Lib.hid hb1
  have HRO := Lib.hid (routes_any A c la w1 (HR.out w1 hb1) (HM.out w1 hb1) HK.out)
  clear hb1
  go_wp2_with fail
  refine HRO.out.mono ?_
  rintro e w2 ⟨IA, ic, li, rfl, hO, hpl, hb2⟩
  have HB2 := Lib.hid (HB1.out.trans (hb2.mono HB1.out.size))
  have HO := Lib.hid hO
  have HPL := Lib.hid hpl
  have HNW := Lib.hid (by have := rtNew_any IA ic li sl w2 (own_row hO.row) hO.ok (by rw [hpl]; exact HK.out) (HG.out w2 HB2.out); rw [hpl] at this; exact this)
  have HIL := Lib.hid (show li.length = la.length by rw [← plA_length li, hpl, plA_length])
  clear hb2 hO hpl HRO
  go_wp2_with fail
  refine HNW.out.mono ?_
  rintro e w3 h3
  have HB3 := Lib.hid (show Below w.heap.size w w3 by
    rcases h3 with ⟨_, _, h⟩ | ⟨_, _, _, _, _, h⟩
    · exact HB2.out.trans (h.mono HB2.out.size)
    · exact HB2.out.trans (h.mono HB2.out.size))
  have HO3 := Lib.hid (show OwnA w1.heap.size w3 (.slice IA li.length ic) li by
    rcases h3 with ⟨_, _, h⟩ | ⟨_, _, _, _, _, h⟩
    · exact HO.out.below h
    · exact HO.out.below h)
  have hv : ∃ (tp : Value) (i : Nat) (cd : Int), newP (plA la) = (i, cd) ∧ e = .returned (.tuple #[tp, .int .i64 (i : Nat), .int .i64 cd]) ∧ ((tp = .pointer none ∧ (cd != 0) = true) ∨ (∃ t : Nat, tp = .pointer (some ⟨t, 0, none⟩) ∧ (cd != 0) = false)) := by
    rcases h3 with ⟨h, rfl, _⟩ | ⟨h, t, rfl, _⟩
    · exact ⟨_, _, _, rfl, rfl, .inl ⟨rfl, bne_iff_ne.2 h⟩⟩
    · refine ⟨_, 0, 0, h, rfl, .inr ⟨t, rfl, by decide⟩⟩
  clear h3 HNW HO
  obtain ⟨tp, i, cd, hr, rfl, hcase⟩ := hv
  have HPN := Lib.hid (plain_any A c la w3 (HR.out w3 HB3.out) (HM.out w3 HB3.out) HK.out)
  have HNR := Lib.hid (HS.out.symm.trans hr)
  clear hr
  go_wp2_with fail
  refine HPN.out.mono ?_
  rintro e w4 ⟨PA, pc, lp, rfl, hO4, hpl4, hb4⟩
  have HB4 := Lib.hid (HB3.out.trans (hb4.mono HB3.out.size))
  have HO4 := Lib.hid (HO3.out.below hb4)
  have HRN := Lib.hid (by have := rtRNew_any PA pc lp w4 (own_row hO4.row) (own_cap hO4.row) hO4.ok (by rw [hpl4]; exact HK.out); rw [hpl4, HNR.out] at this; exact this)
  clear hb4 hO4 hpl4 HPN HO3
  go_wp2_with fail
  refine HRN.out.mono ?_
  rintro e w5 ⟨rfl, hb5⟩
  have HB5 := Lib.hid (HB4.out.trans (hb5.mono HB4.out.size))
  have HO5 := Lib.hid (HO4.out.below hb5)
  clear hb5 HO4 HRN
  dsimp only
  have hii : ((i : Int) != (i : Int)) = false := by simp
  have hcc : (cd != cd) = false := by simp
  have HI5 := Lib.hid (fun (W : World) (h : Below w5.heap.size w5 W) => own_row (HO5.out.below h).row)
  have HIM := Lib.hid (fun (W : World) (h : Below w5.heap.size w5 W) => (HO5.out.below h).ok)
  have HR5 := Lib.hid (fun (W : World) (h : Below w5.heap.size w5 W) => HR.out W (HB5.out.trans (h.mono HB5.out.size)))
  have HM5 := Lib.hid (fun (W : World) (h : Below w5.heap.size w5 W) => HM.out W (HB5.out.trans (h.mono HB5.out.size)))
  clear HO5 HR HM HNR
  have HE := Lib.hid (show (tp = .pointer none ∧ (cd != 0) = true) ∨ (∃ t : Nat, tp = .pointer (some ⟨t, 0, none⟩) ∧ (cd != 0) = false) from hcase)
  clear hcase
  rcases HE.out with ⟨rfl, hcd⟩ | ⟨t, rfl, hcd⟩
  all_goals
    go_wp2
    go_loopw [47] (fun i wr => ∃ (k : Nat), k ≤ la.length ∧ i = .int .i64 k ∧ Hid (Below w5.heap.size w5 wr)) (fun i _ => la.length - (RowKit.intOf i).toNat)
    case atStart => exact ⟨0, by omega, rfl, Lib.hid (Below.refl _ _)⟩
    case round =>
      obtain ⟨k, hkl, rfl, HB⟩ := hrel
      by_cases hlt : k < la.length
      · obtain ⟨x, hx⟩ := some_of_lt hlt
        obtain ⟨y, hy⟩ := some_of_lt (show k < li.length by rw [HIL.out]; exact hlt)
        have hxy : y.1.2 = x.1.2 := by
          have h1 := plA_get hy
          rw [HPL.out, plA_get hx] at h1
          injection h1 with h1
          exact h1.symm
        have HSX := slim_mem HK.out (List.mem_of_getElem? (plA_get hx))
        have hmx := (HM5.out wr HB.out x (List.mem_of_getElem? hx)).1
        have hmy := (HIM.out wr HB.out y (List.mem_of_getElem? hy)).1
        obtain ⟨b, off, rfl, hbl, f0, f1, f2, f3, f4, f5, f6, f7, f8⟩ := (HR5.out wr HB.out).ra hx
        obtain ⟨b', off', rfl, hbl', g0, g1, _⟩ := (HI5.out wr HB.out).ra hy
        have hki : (k : Int) < (la.length : Int) := by omega
        have hki' : (k : Int) < (li.length : Int) := by rw [HIL.out]; omega
        clear hx hy
        obtain ⟨⟨⟨MA, mc⟩, ml, p⟩, XT⟩ := x
        obtain ⟨⟨⟨NA, nc⟩, nl, q⟩, YT⟩ := y
        dsimp only at f0 f1 f2 f3 f4 f5 f6 f7 f8 HSX hmx hmy hxy g0 g1
        injection hxy with e1 e2
        subst e1
        subst e2
        have hnum := HSX.num
        have hpp : (q.toList == q.toList) = true := by simp
        dsimp only at hnum
        have hb1 : Below wr.heap.size wr (wr.alloc (.cells #[.slice MA nl.length mc, .string q, .slice XT.A XT.n XT.c, .int .i64 XT.k, .string XT.x, .string XT.y, .string XT.z, .int .i64 XT.s, .int .i64 XT.m] 38)) := (Below.refl _ _).alloc (Nat.le_refl _) _
        have hN : Blk (wr.alloc (.cells #[.slice MA nl.length mc, .string q, .slice XT.A XT.n XT.c, .int .i64 XT.k, .string XT.x, .string XT.y, .string XT.z, .int .i64 XT.s, .int .i64 XT.m] 38)) wr.heap.size 38 #[.slice MA nl.length mc, .string q, .slice XT.A XT.n XT.c, .int .i64 XT.k, .string XT.x, .string XT.y, .string XT.z, .int .i64 XT.s, .int .i64 XT.m] := Blk.new wr _ _
        have HTX := Lib.hid (fun (n : Nat) => textsQQ_any nc mc nl ((wr.alloc (.cells #[.slice MA nl.length mc, .string q, .slice XT.A XT.n XT.c, .int .i64 XT.k, .string XT.x, .string XT.y, .string XT.z, .int .i64 XT.s, .int .i64 XT.m] 38)).drewN n) ((hmy.below hb1).below (below_drewN (Below.refl _ _) n)) ((hmx.below hb1).below (below_drewN (Below.refl _ _) n)) (by omega))
        have k0 : (wr.alloc (.cells #[.slice MA nl.length mc, .string q, .slice XT.A XT.n XT.c, .int .i64 XT.k, .string XT.x, .string XT.y, .string XT.z, .int .i64 XT.s, .int .i64 XT.m] 38)).cell? ⟨b', off' + k * 9, none⟩ = some (.slice NA nl.length nc) := by rw [hb1.cell (p := ⟨b', off' + k * 9, none⟩) hbl']; exact g0
        have k1 : (wr.alloc (.cells #[.slice MA nl.length mc, .string q, .slice XT.A XT.n XT.c, .int .i64 XT.k, .string XT.x, .string XT.y, .string XT.z, .int .i64 XT.s, .int .i64 XT.m] 38)).cell? ⟨b', off' + k * 9 + 1, none⟩ = some (.string q) := by rw [hb1.cell (p := ⟨b', off' + k * 9 + 1, none⟩) hbl']; exact g1
        have c0 : (wr.alloc (.cells #[.slice MA nl.length mc, .string q, .slice XT.A XT.n XT.c, .int .i64 XT.k, .string XT.x, .string XT.y, .string XT.z, .int .i64 XT.s, .int .i64 XT.m] 38)).cell? ⟨wr.heap.size, 0, none⟩ = some (.slice MA nl.length mc) := hN.cell 0
        have c1 : (wr.alloc (.cells #[.slice MA nl.length mc, .string q, .slice XT.A XT.n XT.c, .int .i64 XT.k, .string XT.x, .string XT.y, .string XT.z, .int .i64 XT.s, .int .i64 XT.m] 38)).cell? ⟨wr.heap.size, 1, none⟩ = some (.string q) := hN.cell 1
        have hlt2 := hN.lt
        have HB2 := Lib.hid (HB.out.trans (hb1.mono HB.out.size))
        clear hmx hmy HSX hN g0 g1 hb1
        go_wp2_with fail
        generalize (wr.alloc (.cells #[.slice MA nl.length mc, .string q, .slice XT.A XT.n XT.c, .int .i64 XT.k, .string XT.x, .string XT.y, .string XT.z, .int .i64 XT.s, .int .i64 XT.m] 38)) = w7 at *
        go_quiet (first | (go_at_call 16; exact Calls.quiet_of (HTX.out _)))
        go_wp2
        go_roundw
        case rel => exact ⟨k + 1, by omega, by go_num, Lib.hid (below_drewN HB2.out _)⟩
        case measure => simp [RowKit.intOf]; omega
      · obtain rfl : k = la.length := by omega
        go_wp2
        go_ret
        exact ⟨rfl, HB5.out.trans (HB.out.mono HB5.out.size)⟩
end Go.Proofs.YtiohmnhbmmhnhaaGreatDoor
