/-
  TgAd, TgNm, without what the claim does not reach.
-/
import Derived.Test.YtbnafbdhomdcoaaGreatDoorZm23
namespace Go.Proofs.YtbnafbdhomdcoaaGreatDoor.T5
open Go.RowKit Go.Shelf Go.Lib
theorem row8 {s : ByteArray} (h : gap s = s.size) (h0 : ¬ 0 ≤ groupsR s true) : isAddr s = false := by rw [isAddr_row h]; exact decide_eq_false (by omega)
theorem row8_eq {s : ByteArray} (h : gap s = s.size) : isAddr s = (groupsR s true == 8) := by rw [isAddr_row h]; rfl
set_option maxRecDepth 20000 in
set_option maxHeartbeats 4000000 in
theorem isAddress_any (s : ByteArray) (w : World) (hs : s.size ≤ 4194304) (hg : Glob w) :
  Calls Tryz.prog 203 #[.string s] w fun e w' => e = .returned (.bool (isAddr s)) ∧ Below w.heap.size w w' := by
 have HC := Lib.hid (CutGap_any s w hs hg)
 have hz := (gap_spec s)
 by_cases hgap : gap s = s.size
 ·have hgv : gapVal s = .tuple #[.string s, .string ⟨#[]⟩, .bool false] := by unfold gapVal; rw [if_neg (by omega)]
  rw [hgv] at HC
  have HG := Lib.hid (fun w hg => groups_any s true w hs hg)
  have H8 := Lib.hid (row8_eq hgap)
  have H0 := Lib.hid (fun h => row8 hgap h)
  clear hgv hz hgap
  unfold GivesGr at HG
  generalize groupsR s true = r at *
  by_cases hr : 0 ≤ r
  ·have hd : decide (0 ≤ r) = true := decide_eq_true hr
   rw [hd] at HG
   clear hd
   go_enter Tryz.func203, Tryz.ntmps203
   go_wp2_with fail
   refine HC.out.mono ?_
   rintro e w1 ⟨rfl, q, rfl⟩
   go_wp2_with fail
   refine (HG.out _ (hg.drewN q)).mono ?_
   rintro e w2 ⟨n, rfl, hn, b2⟩
   obtain rfl : n = r := hn hr
   go_wp2
   go_ret
   exact ⟨ret_bool H8.out.symm, (below_drewN (Below.refl _ _) q).trans b2⟩
  ·have hd : decide (0 ≤ r) = false := decide_eq_false hr
   rw [hd] at HG
   have HB := Lib.hid (H0.out hr)
   clear hd
   go_enter Tryz.func203, Tryz.ntmps203
   go_wp2_with fail
   refine HC.out.mono ?_
   rintro e w1 ⟨rfl, q, rfl⟩
   go_wp2_with fail
   refine (HG.out _ (hg.drewN q)).mono ?_
   rintro e w2 ⟨n, rfl, hn, b2⟩
   go_wp2
   go_ret
   exact ⟨ret_bool HB.out.symm, (below_drewN (Below.refl _ _) q).trans b2⟩
 ·obtain ⟨k, hk, hk1, _⟩ := hz.resolve_left (fun h => hgap h.1)
  have hgv : gapVal s = .tuple #[.string (s.extract 0 k), .string (s.extract (k + 2) s.size), .bool true] := by unfold gapVal; rw [hk, if_pos (by omega)]
  rw [hgv] at HC
  have hz1 := ext_size s (a := 0) (b := k) (by omega) (by omega)
  have hz2 := ext_size s (a := k + 2) (b := s.size) (by omega) (by omega)
  have HA := Lib.hid (fun w hg => groups_any (s.extract 0 k) false w (by omega) hg)
  have HB := Lib.hid (fun w hg => groups_any (s.extract (k + 2) s.size) true w (by omega) hg)
  have hia := isAddr_gap (s := s) (k := k) (by omega) hk
  have hra := groupsR_range (s.extract 0 k) false
  have hrb := groupsR_range (s.extract (k + 2) s.size) true
  unfold GivesGr at HA HB
  generalize groupsR (s.extract 0 k) false = a at *
  generalize groupsR (s.extract (k + 2) s.size) true = b at *
  generalize s.extract 0 k = t1 at *
  generalize s.extract (k + 2) s.size = t2 at *
  have HI := Lib.hid hia
  clear hgv hgap hk hia hz
  have fin : ∀ c : Bool, c = (decide (0 ≤ a) && (decide (0 ≤ b) && decide (a + b ≤ 7))) → isAddr s = c := fun c hc => HI.out.trans hc.symm
  have HF := Lib.hid fin
  clear fin
  by_cases ha : 0 ≤ a
  ·have hda : decide (0 ≤ a) = true := decide_eq_true ha
   rw [hda] at HA
   by_cases hb : 0 ≤ b
   ·have hdb : decide (0 ≤ b) = true := decide_eq_true hb
    rw [hdb] at HB
    have HE := Lib.hid (HF.out (decide (a + b ≤ 7)) (by rw [hda, hdb]; rfl))
    clear hda hdb
    go_enter Tryz.func203, Tryz.ntmps203
    go_wp2_with fail
    refine HC.out.mono ?_
    rintro e w1 ⟨rfl, q, rfl⟩
    have B1 := below_drewN (Below.refl w.heap.size w) q
    go_wp2_with fail
    refine (HA.out _ (hg.drewN q)).mono ?_
    rintro e w2 ⟨n, rfl, hn, b2⟩
    obtain rfl : n = a := hn ha
    have B2 : Below w.heap.size w w2 := B1.trans b2
    have hg2 := hg.beyond B2
    clear b2 hn
    go_wp2_with fail
    refine (HB.out _ hg2).mono ?_
    rintro e w3 ⟨m, rfl, hm, b3⟩
    obtain rfl : m = b := hm hb
    have B3 := B2.trans (b3.mono B2.size)
    clear b3 hm
    go_wp2
    go_ret
    exact ⟨ret_bool HE.out.symm, B3⟩
   ·have hdb : decide (0 ≤ b) = false := decide_eq_false hb
    rw [hdb] at HB
    have HE := Lib.hid (HF.out false (by rw [hda, hdb]; rfl))
    clear hda hdb
    go_enter Tryz.func203, Tryz.ntmps203
    go_wp2_with fail
    refine HC.out.mono ?_
    rintro e w1 ⟨rfl, q, rfl⟩
    have B1 := below_drewN (Below.refl w.heap.size w) q
    go_wp2_with fail
    refine (HA.out _ (hg.drewN q)).mono ?_
    rintro e w2 ⟨n, rfl, hn, b2⟩
    have B2 : Below w.heap.size w w2 := B1.trans b2
    have hg2 := hg.beyond B2
    clear b2 hn
    go_wp2_with fail
    refine (HB.out _ hg2).mono ?_
    rintro e w3 ⟨m, rfl, hm, b3⟩
    have B3 := B2.trans (b3.mono B2.size)
    clear b3 hm
    go_wp2
    go_ret
    exact ⟨ret_bool HE.out.symm, B3⟩
  ·have hda : decide (0 ≤ a) = false := decide_eq_false ha
   rw [hda] at HA
   have HE := Lib.hid (HF.out false (by rw [hda]; rfl))
   clear hda
   go_enter Tryz.func203, Tryz.ntmps203
   go_wp2_with fail
   refine HC.out.mono ?_
   rintro e w1 ⟨rfl, q, rfl⟩
   have B1 := below_drewN (Below.refl w.heap.size w) q
   go_wp2_with fail
   refine (HA.out _ (hg.drewN q)).mono ?_
   rintro e w2 ⟨n, rfl, hn, b2⟩
   have B2 : Below w.heap.size w w2 := B1.trans b2
   have hg2 := hg.beyond B2
   clear b2 hn
   go_wp2_with fail
   refine (HB.out _ hg2).mono ?_
   rintro e w3 ⟨m, rfl, hm, b3⟩
   have B3 := B2.trans (b3.mono B2.size)
   clear b3 hm
   go_wp2
   go_ret
   exact ⟨ret_bool HE.out.symm, B3⟩
def hostB5 (s : ByteArray) : Bool := if heads s 91 = true then (ends s 93 && isAddr (s.extract 1 (s.size - 1))) else isNameH s
set_option maxRecDepth 20000 in
set_option maxHeartbeats 4000000 in
theorem isHost_any (s : ByteArray) (w : World) (hs : s.size ≤ 4194304) (hg : Glob w) :
  Calls Tryz.prog 166 #[.string s] w fun e w' => e = .returned (.bool (hostB5 s)) ∧ Below w.heap.size w w' := by
 have HP := Lib.hid (fun w => Prefix_any s 91 w)
 rw [show ((91 : UInt8).toNat : Int) = 91 from rfl] at HP
 have HB := Lib.hid (show hostB5 s = if heads s 91 = true then (ends s 93 && isAddr (s.extract 1 (s.size - 1))) else isNameH s from rfl)
 cases hh : heads s 91
 ·rw [hh] at HP HB
  rw [if_neg (by simp)] at HB
  have HS := Lib.hid (fun w => signs_host s w (by omega))
  by_cases hz : s.size = 0
  ·have he : s.toList.isEmpty = true := by rw [empty_eq]; exact decide_eq_true hz
   have HN := Lib.hid (show isNameH s = false by unfold isNameH; rw [decide_eq_false (show ¬ 0 < s.size by omega)]; rfl)
   clear hz hh
   go_enter Tryz.func166, Tryz.ntmps166
   go_wp2_with fail
   refine (HP.out _).mono ?_
   rintro e w1 ⟨rfl, rfl⟩
   go_wp2
   go_ret
   exact ⟨ret_bool (by rw [HB.out, HN.out]), Below.refl _ _⟩
  ·have he : s.toList.isEmpty = false := by rw [empty_eq]; exact decide_eq_false hz
   have HN := Lib.hid (show isNameH s = ((hostStop s : Int) == (s.size : Int)) by
    unfold isNameH
    rw [decide_eq_true (show 0 < s.size by omega), Bool.true_and, Bool.eq_iff_iff, decide_eq_true_eq, beq_iff_eq]
    omega)
   clear hz hh
   generalize hostStop s = n at *
   go_enter Tryz.func166, Tryz.ntmps166
   go_wp2_with fail
   refine (HP.out _).mono ?_
   rintro e w1 ⟨rfl, rfl⟩
   go_wp2_with fail
   refine (HS.out _).mono ?_
   rintro e w1 ⟨rfl, q, rfl⟩
   go_wp2
   go_ret
   exact ⟨ret_bool (by rw [HB.out, HN.out]), below_drewN (Below.refl _ _) q⟩
 ·rw [hh] at HP HB
  rw [if_pos rfl] at HB
  have HX := Lib.hid (fun w => Suffix_any s 93 w hs)
  rw [show ((93 : UInt8).toNat : Int) = 93 from rfl] at HX
  cases hx : ends s 93
  ·rw [hx] at HX HB
   clear hh hx
   go_enter Tryz.func166, Tryz.ntmps166
   go_wp2_with fail
   refine (HP.out _).mono ?_
   rintro e w1 ⟨rfl, rfl⟩
   go_wp2_with fail
   refine (HX.out _).mono ?_
   rintro e w1 ⟨rfl, rfl⟩
   go_wp2
   go_ret
   exact ⟨ret_bool (by rw [HB.out]; rfl), Below.refl _ _⟩
  ·rw [hx] at HX HB
   have h2 : 2 ≤ s.size := by
    simp only [heads, ends, Bool.and_eq_true, decide_eq_true_eq] at hh hx
    rcases Nat.lt_or_ge s.size 2 with h1 | h1
    ·have h3 := hh.1
     have h4 := hh.2
     have h5 := hx.2
     rw [show s.size - 1 = 0 by omega, h4] at h5
     omega
    ·exact h1
   have hz := ext_size s (a := 1) (b := s.size - 1) (by omega) (by omega)
   have HA := Lib.hid (fun w hg => isAddress_any (s.extract 1 (s.size - 1)) w (by omega) hg)
   have i1 : ((s.size : Int) - 1).toNat = s.size - 1 := by omega
   have l1 : (1 : Int) ≤ (s.size : Int) - 1 := by omega
   clear hh hx hz
   generalize isAddr (s.extract 1 (s.size - 1)) = r at *
   go_enter Tryz.func166, Tryz.ntmps166
   go_wp2_with fail
   refine (HP.out _).mono ?_
   rintro e w1 ⟨rfl, rfl⟩
   go_wp2_with fail
   refine (HX.out _).mono ?_
   rintro e w1 ⟨rfl, rfl⟩
   go_wp2_with fail
   refine (HA.out _ hg).mono ?_
   rintro e w1 ⟨rfl, b1⟩
   go_wp2
   go_ret
   exact ⟨ret_bool (by rw [HB.out]; rfl), b1⟩
end Go.Proofs.YtbnafbdhomdcoaaGreatDoor.T5
namespace Go.Proofs.YtbnafbdhomdcoaaGreatDoor.T5
open Go.RowKit Go.Shelf Go.Lib
end Go.Proofs.YtbnafbdhomdcoaaGreatDoor.T5
