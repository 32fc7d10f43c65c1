/-
 RtLawPaths, without what this claim does not reach.
-/
import Derived.Test.YtiohmnhbmmhnhaaGreatDoorZRtPw
import Derived.Test.YtiohmnhbmmhnhaaGreatDoorZTgF3
namespace Go.Proofs.YtiohmnhbmmhnhaaGreatDoor
open Go.RowKit Go.Shelf Go.Lib
set_option maxRecDepth 100000 in
set_option maxHeartbeats 8000000 in
theorem RoutePaths_walk (A : Option Addr) (c : Nat) (la : List Ra) (i : Int) (VA : Option Addr) (vc : Nat) (vs : List Pr) (w : World) (hr : Row w A (flatA la)) (hm : AOk w la) (_hi : -9223372036854775808 ≤ i ∧ i ≤ 9223372036854775807) (hv : Row w VA (flat3 vs)) (hk : bulkRt (plA la) + 0 + bulkV vs ≤ 1048576) (hg : GlobR w) :
  Calls Tryz.prog 8 #[.slice A la.length c, .int .i64 i, .slice VA vs.length vc] w fun e w' => e = .returned (.bool true) ∧ Below w.heap.size w w' := by
 obtain ⟨i0, hi0, hz0, hz1, hz2⟩ := info_parts info_rparam
 obtain ⟨j0, hj0, hy0, hy1, hy2⟩ := info_parts info_param
 have hvl0 := bulkV_len vs
 have hvl : vs.length ≤ 1048576 := by omega
 have HVZ := Lib.hid (show ∀ x ∈ vs, x.2.1.size ≤ 1048576 from fun x hx => by have := bulkV_mem hx; omega)
 have HR := Lib.hid (fun (W : World) (h : Below w.heap.size w W) => hr.below h)
 have HM := Lib.hid (fun (W : World) (h : Below w.heap.size w W) => hm.below h)
 have HV := Lib.hid (fun (W : World) (h : Below w.heap.size w W) => hv.below h)
 have HK := Lib.hid (show bulkRt (plA la) ≤ 1048576 by omega)
 have HG := Lib.hid (fun (W : World) (h : Below w.heap.size w W) => hg.beyond h)
 have HAW := Lib.hid (awake_any w hg)
 clear hr hm hv hk hg hvl0 _hi
 go_enter Tryz.func8, Tryz.ntmps8
 go_wp2_with fail
 refine HAW.out.mono ?_
 rintro e w1 ⟨rfl, hb1⟩
 have HB1 := Lib.hid hb1
 have HMA := Lib.hid (made_any A c la false w1 (HR.out w1 hb1) (HM.out w1 hb1) HK.out (HG.out w1 hb1))
 clear hb1 HAW
 go_wp2_with fail
 refine HMA.out.mono ?_
 rintro e w2 (⟨_, rfl, hb2⟩ | ⟨_, t, rfl, _, hT, hb2⟩)
 ·have HB2 := Lib.hid (HB1.out.trans (hb2.mono HB1.out.size))
  clear hb2 HMA
  go_wp2
  go_ret
  exact ⟨rfl, HB2.out⟩
 ·have HB2 := Lib.hid (HB1.out.trans (hb2.mono HB1.out.size))
  have HT := Lib.hid hT
  have HBW := Lib.hid (fun (W : World) (h : Below w2.heap.size w2 W) => HB2.out.trans (h.mono HB2.out.size))
  have HGL := Lib.hid (hT.goodL).1
  clear hb2 HMA hT
  go_wp2
  go_loopw [10, 34] (fun v i wr => ∃ k : Nat, k ≤ vs.length ∧ i = .int .i64 k ∧ Hid (wr.ownsRow w2.heap.size 71 3 v k (flat3 (vs.take k))) ∧ Hid (Below w2.heap.size w2 wr)) (fun _ i _ => vs.length - (RowKit.intOf i).toNat)
  case atStart => exact ⟨0, by omega, rfl, Lib.hid (World.ownsRow_nil _ _ _ _), Lib.hid (Below.refl _ _)⟩
  case round =>
   obtain ⟨k, hkl, rfl, HO, HB⟩ := hrel
   obtain ⟨OA, oc, rfl⟩ := own_slice HO.out
   by_cases hlt : k < vs.length
   ·obtain ⟨⟨x, y, z⟩, hx⟩ := some_of_lt hlt
    obtain ⟨b, off, rfl, hbl, f0, f1, f2⟩ := (HV.out wr (HBW.out wr HB.out)).trip hx
    have hki : (k : Int) < (vs.length : Int) := by omega
    have HS := Lib.hid (take_snoc hx)
    have hb5 : Below wr.heap.size wr (wr.alloc (.cells #[.string x, .string y, .bool z] 68)) := (Below.refl _ _).alloc (Nat.le_refl _) _
    have HN5 : Hid (Blk (wr.alloc (.cells #[.string x, .string y, .bool z] 68)) wr.heap.size 68 #[.string x, .string y, .bool z]) := Lib.hid (Blk.new wr _ _)
    have HB5 := Lib.hid (HB.out.trans (hb5.mono HB.out.size))
    have HO5 := Lib.hid (own_below HO.out hb5)
    clear hb5 hx
    obtain ⟨nb, hnb⟩ : ∃ nb : Nat, nb = wr.heap.size := ⟨_, rfl⟩
    go_upto_region 10 with (fail)
    rw [← hnb] at HN5
    rw [← hnb]
    generalize (wr.alloc (.cells #[.string x, .string y, .bool z] 68)) = w5 at *
    have g0 : w5.cell? ⟨nb, 0, none⟩ = some (.string x) := HN5.out.cell 0
    have g1 : w5.cell? ⟨nb, 1, none⟩ = some (.string y) := HN5.out.cell 1
    have g2 : w5.cell? ⟨nb, 2, none⟩ = some (.bool z) := HN5.out.cell 2
    have hws : w2.heap.size ≤ w5.heap.size := HB5.out.size
    clear hnb f0 f1 f2 hbl
    go_wp2_with (at_builtin; refine wpList_append_any _ rfl (.tmp 38) (.tmp 46) 57 rfl w2.heap.size 71 i0 (.agg #[.string ⟨#[]⟩, .string ⟨#[]⟩, .bool false]) 3 40 Tryz.underlying57 hi0 hz0 hz1 hz2 rfl (by decide) (.slice OA k oc) k (flat3 (vs.take k)) rfl (HO5.out.alloc _) _ (some ⟨w5.heap.size, 0, none⟩) 1 1 (flat3 [(x, y, z)]) rfl (reads_of_row (row_newc w5 _ 71 rfl) rfl (by decide)) (flat3_oneCell _) (by unfold maxLen; omega) (by omega) (by simp; omega) ?_; intro v6 w6 hown6 hg6 halt6)
    have HO6 := Lib.hid (show w6.ownsRow w2.heap.size 71 3 v6 (k + 1) (flat3 (vs.take (k + 1))) from by
     rw [HS.out, flat3_append]
     exact hown6)
    have HB6 := Lib.hid ((HB5.out.alloc HB5.out.size (.cells #[.string x, .string y, .bool z] 71)).grown hg6 (by simp; omega) (own_lt HO5.out))
    clear hown6 hg6 halt6 g0 g1 g2
    go_roundw
    case rel => exact ⟨k + 1, by omega, by go_num, HO6, HB6⟩
    case measure => simp [RowKit.intOf]; omega
   ·obtain rfl : k = vs.length := by omega
    rw [List.take_length] at HO
    have hbe := (Below.refl wr.heap.size wr).alloc (Nat.le_refl _) (.cells #[] 68)
    have HVE := Lib.hid ((HV.out wr (HBW.out wr HB.out)).below hbe)
    have HOE := Lib.hid (own_below HO.out hbe)
    have HBE := Lib.hid hbe
    have HWE : Hid ((wr.alloc (.cells #[] 68)).ownsRow wr.heap.size 68 3 (.slice (some ⟨wr.heap.size, 0, none⟩) 0 0) 0 []) := Lib.hid (World.ownsRow_lit wr #[] 0 (Nat.le_refl _) (by unfold maxLen; omega) rfl)
    clear hbe
    go_wp2_with (at_builtin; refine wpList_append_any _ rfl (.tmp 52) (.tmp 53) 45 rfl wr.heap.size 68 j0 (.agg #[.string ⟨#[]⟩, .string ⟨#[]⟩, .bool false]) 3 40 Tryz.underlying45 hj0 hy0 hy1 hy2 rfl (by decide) (.slice (some ⟨wr.heap.size, 0, none⟩) 0 0) 0 [] rfl HWE.out _ VA vs.length vc (flat3 vs) rfl (reads_of_row HVE.out (flat3_length vs) (by decide)) (flat3_oneCell _) (by unfold maxLen; omega) (by omega) (by simp) ?_; intro v6 w6 hown6 hg6 halt6)
    rw [Nat.zero_add] at hown6
    obtain ⟨PA, pc, rfl⟩ := own_slice hown6
    have HB6 := Lib.hid (HBE.out.grown hg6 (by simp) (fun k hk => by simp [Value.ownBlock] at hk; omega))
    have HP6 := Lib.hid (own_row (show w6.ownsRow wr.heap.size 68 3 (.slice PA vs.length pc) vs.length (flat3 vs) from hown6))
    have HX6 := Lib.hid (HB.out.trans (HB6.out.mono HB.out.size))
    have HC := Lib.hid (rtPath_any t false (plA la) PA pc vs i w6 (HT.out.below HX6.out) HP6.out hvl HVZ.out (HG.out w6 (HBW.out w6 HX6.out)))
    have HO6 := Lib.hid (own_below HO.out HB6.out)
    have HRF := Lib.hid (fun (W : World) (QA : Option Addr) (qc : Nat) (lp : List Rv) (ho : Row W QA (flatR lp)) (hp : plR lp = plA la) (h : Below w6.heap.size w6 W) => (show Calls Tryz.prog 29 #[.slice QA lp.length qc, .int .i64 i, .slice OA vs.length oc] W (fun e w' => e = .returned (.tuple #[.string (pathP (plA la) i vs).1, .int .i64 (pathP (plA la) i vs).2]) ∧ Below W.heap.size W w') from by
     have := rtRPath_any QA qc lp OA oc vs i W ho (by rw [hp]; exact HGL.out) ((own_row HO6.out).below h) hvl HVZ.out
     rw [hp] at this
     exact this))
    clear hown6 hg6 halt6 HWE HVE HOE
    generalize pathP (plA la) i vs = r at *
    obtain ⟨rs, rc⟩ := r
    dsimp only at HC HRF
    have hq1 : (rs.toList == rs.toList) = true := by simp
    have hq2 : (rc == rc) = true := by simp
    go_wp2_with fail
    refine HC.out.mono ?_
    rintro e w7 ⟨rfl, hb7⟩
    have HX7 := Lib.hid hb7
    have HB7 := Lib.hid (HX6.out.trans (hb7.mono HX6.out.size))
    clear hb7
    go_wp2_with fail
    refine (plain_any A c la w7 (HR.out w7 (HBW.out w7 HB7.out)) (HM.out w7 (HBW.out w7 HB7.out)) HK.out).mono ?_
    rintro e w8 ⟨QA, qc, lp, rfl, hO8, hpl8, hb8⟩
    have HX8 := Lib.hid (HX7.out.trans (hb8.mono HX7.out.size))
    have HB8 := Lib.hid (HB7.out.trans (hb8.mono HB7.out.size))
    have HF := Lib.hid (HRF.out w8 QA qc lp (own_row hO8.row) hpl8 HX8.out)
    clear hO8 hpl8 hb8 HRF
    go_wp2_with fail
    refine HF.out.mono ?_
    rintro e w9 ⟨rfl, hb9⟩
    have HB9 := Lib.hid (HBW.out _ (HB8.out.trans (hb9.mono HB8.out.size)))
    clear hb9
    go_wp2
    go_ret
    exact ⟨rfl, HB9.out⟩
end Go.Proofs.YtiohmnhbmmhnhaaGreatDoor
