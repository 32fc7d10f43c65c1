/-
 RtRf, without what this claim does not reach.
-/
import Derived.Test.YtiohmnhbmmhnhaaGreatDoorZRtMd
namespace Go.Proofs.YtiohmnhbmmhnhaaGreatDoor
open Go.RowKit Go.Shelf Go.Lib
def patV (o : Option ByteArray) : ByteArray := o.getD ⟨#[]⟩
theorem fit_pos {path p : ByteArray} (h : fitT path p = true) : 0 < p.size := by
 unfold fitT at h
 rw [← ref_fits] at h
 unfold refFits at h
 by_cases hc : (splitP p).2.2 = true ∧ isPathB path = true
 ·exact split_pos hc.1
 ·rw [if_neg hc] at h
  cases h
theorem fold_snoc {α β : Type} (f : β → α → β) (b : β) {l : List α} {k : Nat} {x : α} (h : l[k]? = some x) : (l.take (k + 1)).foldl f b = f ((l.take k).foldl f b) x := by
 rw [take_snoc h, List.foldl_append]
 rfl
set_option maxRecDepth 100000 in
set_option maxHeartbeats 4000000 in
theorem rPattern_any (A : Option Addr) (c : Nat) (ls : List Rv) (path : ByteArray) (w : World) (hr : Row w A (flatR ls)) (hk : bulkRt (plR ls) ≤ 1048576) (hp : path.size ≤ 4194304) :
  Calls Tryz.prog 54 #[.slice A ls.length c, .string path] w fun e w' => e = .returned (.tuple #[.string (patV (patR (plR ls) path)), .bool (patR (plR ls) path).isSome]) ∧ Below w.heap.size w w' := by
 have hlen4 := bulkRt_len (plR ls)
 rw [plR_length] at hlen4
 have hlen5 : ls.length ≤ 262144 := by omega
 have HR := Lib.hid (fun (W : World) (h : Below w.heap.size w W) => hr.below h)
 have HK := Lib.hid hk
 have HB0 := Lib.hid (Below.refl w.heap.size w)
 obtain ⟨pl, hpl⟩ : ∃ pl, (plR ls).map (·.2) = pl := ⟨_, rfl⟩
 obtain ⟨res, hres⟩ : ∃ res, patR (plR ls) path = res := ⟨_, rfl⟩
 rw [hres]
 have HRES := Lib.hid (show pl.foldl (bestStep cmpI (fitT path)) none = res by rw [← hpl, ← hres]; rfl)
 have HLL := Lib.hid (show pl.length = ls.length by rw [← hpl, List.length_map, plR_length])
 have HPL := Lib.hid (fun (k : Nat) (x : Rv) (h : ls[k]? = some x) => (show pl[k]? = some x.2.2 ∧ Slim x.2 from ⟨by rw [← hpl, List.getElem?_map, plR_get h]; rfl, slim_mem hk (List.mem_of_getElem? (plR_get h))⟩))
 clear hr hk hpl hres
 go_enter Tryz.func54, Tryz.ntmps54
 go_wp2
 go_loopw [6, 14] (fun v i wr => ∃ (k : Nat) (o : Option ByteArray), k ≤ ls.length ∧ v = .string (patV o) ∧ i = .int .i64 k ∧ Hid ((pl.take k).foldl (bestStep cmpI (fitT path)) none = o) ∧ Hid (∀ p, o = some p → 0 < p.size ∧ p.size ≤ 1048576) ∧ Hid (Below w.heap.size w wr)) (fun _ i _ => ls.length - (RowKit.intOf i).toNat)
 case atStart => exact ⟨0, none, by omega, rfl, rfl, Lib.hid rfl, Lib.hid (fun p h => by cases h), HB0⟩
 case round =>
  obtain ⟨k, o, hkl, rfl, rfl, HO, HS, HB⟩ := hrel
  by_cases hlt : k < ls.length
  ·obtain ⟨x, hx⟩ := some_of_lt hlt
   obtain ⟨hpk, hslim⟩ := HPL.out k x hx
   obtain ⟨b, off, rfl, hbl, f0, f1⟩ := (HR.out wr HB.out).rv hx
   have hki : (k : Int) < (ls.length : Int) := by omega
   clear hx
   obtain ⟨⟨MA, mc⟩, ml, p⟩ := x
   dsimp only at f0 f1 hslim hpk
   have hps := hslim.pat
   dsimp only at hps
   have HPK := Lib.hid hpk
   have hb5 : Below wr.heap.size wr (wr.alloc (.cells #[.slice MA ml.length mc, .string p] 93)) := (Below.refl _ _).alloc (Nat.le_refl _) _
   have hN5 : Blk (wr.alloc (.cells #[.slice MA ml.length mc, .string p] 93)) wr.heap.size 93 #[.slice MA ml.length mc, .string p] := Blk.new wr _ _
   have HB5 := Lib.hid (HB.out.trans (hb5.mono HB.out.size))
   have HN5 := Lib.hid hN5
   have r1 : (wr.alloc (.cells #[.slice MA ml.length mc, .string p] 93)).cell? ⟨wr.heap.size, 1, none⟩ = some (.string p) := hN5.cell 1
   have HFT := Lib.hid (by have := rFits_any p path (wr.alloc (.cells #[.slice MA ml.length mc, .string p] 93)) (by omega) hp; rw [ref_fits] at this; exact this)
   clear hb5 hN5 hslim hpk
   go_wp2_with fail
   generalize (wr.alloc (.cells #[.slice MA ml.length mc, .string p] 93)) = w5 at *
   refine HFT.out.mono ?_
   rintro e w6 ⟨FA, fc, rfl, _, hb6⟩
   have HB6 := Lib.hid (HB5.out.trans (hb6.mono HB5.out.size))
   have hfv : (fitVal (fitsP p path)).2 = fitT path p := rfl
   rw [hfv]
   have r1' : w6.cell? ⟨wr.heap.size, 1, none⟩ = some (.string p) := by rw [hb6.cell (p := ⟨wr.heap.size, 1, none⟩) HN5.out.lt]; exact r1
   have rlt : wr.heap.size < w6.heap.size := Nat.lt_of_lt_of_le HN5.out.lt hb6.size
   have HST := Lib.hid (show (pl.take (k + 1)).foldl (bestStep cmpI (fitT path)) none = bestStep cmpI (fitT path) o p by rw [fold_snoc _ _ HPK.out, HO.out])
   have HNT := Lib.hid hlen5
   clear hb6 HFT hfv r1 HO
   cases hfit : fitT path p
   ·have HO' := Lib.hid (show (pl.take (k + 1)).foldl (bestStep cmpI (fitT path)) none = o by rw [HST.out]; unfold bestStep; rw [hfit, if_neg (by decide)])
    clear hfit
    go_wp2
    go_roundw
    case rel => exact ⟨k + 1, o, by omega, rfl, by go_num, HO', HS, HB6⟩
    case measure => simp [RowKit.intOf]; omega
   ·have HPO := Lib.hid (show ∀ q, some p = some q → 0 < q.size ∧ q.size ≤ 1048576 from fun q h => by injection h with h; rw [← h]; exact ⟨fit_pos hfit, hps⟩)
    cases o with
    | none =>
     have HO' := Lib.hid (show (pl.take (k + 1)).foldl (bestStep cmpI (fitT path)) none = some p by rw [HST.out]; unfold bestStep; rw [hfit, if_pos rfl])
     have hee : ((patV none).toList == ([] : List UInt8)) = true := (emp_test _).trans (decide_eq_true rfl)
     clear hfit
     go_wp2
     go_roundw
     case rel => exact ⟨k + 1, some p, by omega, rfl, by go_num, HO', HPO, HB6⟩
     case measure => simp [RowKit.intOf]; omega
    | some q =>
     obtain ⟨hq1, hq2⟩ := HS.out q rfl
     have hee : ((patV (some q)).toList == ([] : List UInt8)) = false := empty_test hq1
     have HCM := Lib.hid (rCompare_any p q w6 (by omega) (by omega))
     have hbs : (pl.take (k + 1)).foldl (bestStep cmpI (fitT path)) none = if cmpI p q < 0 then some p else some q := by rw [HST.out]; unfold bestStep; rw [hfit, if_pos rfl]
     have hci : (cmpR p q).1 = cmpI p q := rfl
     obtain ⟨z, hz⟩ : ∃ z, cmpI p q = z := ⟨_, rfl⟩
     rw [hz] at hbs hci
     have HBS := Lib.hid hbs
     clear hfit hbs hz
     go_wp2_with fail
     refine HCM.out.mono ?_
     rintro e w7 ⟨rfl, hb7⟩
     have HB7 := Lib.hid (HB6.out.trans (hb7.mono HB6.out.size))
     have r1'' : w7.cell? ⟨wr.heap.size, 1, none⟩ = some (.string p) := by rw [hb7.cell (p := ⟨wr.heap.size, 1, none⟩) rlt]; exact r1'
     have rlt' : wr.heap.size < w7.heap.size := Nat.lt_of_lt_of_le rlt hb7.size
     clear hb7 r1' rlt
     unfold chkVal
     rw [hci]
     clear hci
     by_cases hz0 : z < 0
     ·have HO' := Lib.hid (HBS.out.trans (if_pos hz0))
      go_wp2
      go_roundw
      case rel => exact ⟨k + 1, some p, by omega, rfl, by go_num, HO', HPO, HB7⟩
      case measure => simp [RowKit.intOf]; omega
     ·have HO' := Lib.hid (HBS.out.trans (if_neg hz0))
      go_wp2
      go_roundw
      case rel => exact ⟨k + 1, some q, by omega, rfl, by go_num, HO', HS, HB7⟩
      case measure => simp [RowKit.intOf]; omega
  ·obtain rfl : k = ls.length := by omega
   have HE := Lib.hid (show o = res by rw [← HO.out, ← HRES.out, ← HLL.out, List.take_length])
   cases o with
   | none =>
    have hee : ((patV none).toList == ([] : List UInt8)) = true := (emp_test _).trans (decide_eq_true rfl)
    go_wp2
    refine bodyPost_ret (results_two rfl _ _ _) rfl ?_
    exact ⟨by rw [← HE.out]; rfl, HB.out⟩
   | some q =>
    have hee : ((patV (some q)).toList == ([] : List UInt8)) = false := empty_test (HS.out q rfl).1
    go_wp2
    refine bodyPost_ret (results_two rfl _ _ _) rfl ?_
    exact ⟨by rw [← HE.out]; rfl, HB.out⟩
def f1S (pat m : ByteArray) (r : Rt) : Bool := decide (r.2 = pat) && inL r.1 m
def f2S (pat m : ByteArray) (r : Rt) : Bool := decide (r.2 = pat) && (decide (m = mHead) && inL r.1 mGet)
def f3S (pat : ByteArray) (r : Rt) : Bool := decide (r.2 = pat) && decide (r.1.length = 0)
theorem serving_eq (l : List Rt) (pat m : ByteArray) : servingR l pat m = orElse3 (firstP (f1S pat m) l 0) (firstP (f2S pat m) l 0) (firstP (f3S pat) l 0) := rfl
theorem first_step {f : Rt → Bool} {l : List Rt} {k : Nat} {x : Rt} (h : l[k]? = some x) : firstP f (l.drop k) k = if f x = true then some k else firstP f (l.drop (k + 1)) (k + 1) := by
 rw [drop_some h]
 rfl
theorem first_end {f : Rt → Bool} {l : List Rt} (n : Nat) : firstP f (l.drop l.length) n = none := by
 rw [List.drop_length]
 rfl
set_option maxRecDepth 100000 in
set_option maxHeartbeats 4000000 in
theorem serving_any (A : Option Addr) (c : Nat) (ls : List Rv) (pat m : ByteArray) (w : World) (hr : Row w A (flatR ls)) (hm : MOk w ls) (hk : bulkRt (plR ls) ≤ 1048576) :
  Calls Tryz.prog 57 #[.slice A ls.length c, .string pat, .string m] w fun e w' => e = .returned (.int .i64 (servingR (plR ls) pat m)) ∧ Below w.heap.size w w' := by
 have hlen4 := bulkRt_len (plR ls)
 rw [plR_length] at hlen4
 have hlen5 : ls.length ≤ 262144 := by omega
 have HR := Lib.hid (fun (W : World) (h : Below w.heap.size w W) => hr.below h)
 have HM := Lib.hid (fun (W : World) (h : Below w.heap.size w W) => hm.below h)
 have HB0 := Lib.hid (Below.refl w.heap.size w)
 obtain ⟨l, hl⟩ : ∃ l, plR ls = l := ⟨_, rfl⟩
 obtain ⟨res, hres⟩ : ∃ res, servingR (plR ls) pat m = res := ⟨_, rfl⟩
 rw [hres]
 rw [hl] at hk
 obtain ⟨o2, ho2⟩ : ∃ o2, firstP (f2S pat m) l 0 = o2 := ⟨_, rfl⟩
 obtain ⟨o3, ho3⟩ : ∃ o3, firstP (f3S pat) l 0 = o3 := ⟨_, rfl⟩
 have HRES := Lib.hid (show res = orElse3 (firstP (f1S pat m) (l.drop 0) 0) o2 o3 by rw [← hres, serving_eq, hl, List.drop_zero, ho2, ho3])
 have HO2 := Lib.hid (show o2 = firstP (f2S pat m) (l.drop 0) 0 by rw [List.drop_zero, ho2])
 have HO3 := Lib.hid (show o3 = firstP (f3S pat) (l.drop 0) 0 by rw [List.drop_zero, ho3])
 have HLL := Lib.hid (show l.length = ls.length by rw [← hl, plR_length])
 have HPL := Lib.hid (fun (k : Nat) (x : Rv) (h : ls[k]? = some x) => (show l[k]? = some x.2 ∧ Slim x.2 from ⟨by rw [← hl]; exact plR_get h, slim_mem hk (by rw [← hl]; exact List.mem_of_getElem? (plR_get h))⟩))
 clear hr hm hk hl hres ho2 ho3
 go_enter Tryz.func57, Tryz.ntmps57
 go_wp2
 go_loopw [15] (fun i wr => ∃ k : Nat, k ≤ ls.length ∧ i = .int .i64 k ∧ Hid (res = orElse3 (firstP (f1S pat m) (l.drop k) k) o2 o3) ∧ Hid (Below w.heap.size w wr)) (fun i _ => ls.length - (RowKit.intOf i).toNat)
 case atStart => exact ⟨0, by omega, rfl, HRES, HB0⟩
 case round =>
  obtain ⟨k, hkl, rfl, HO, HB⟩ := hrel
  by_cases hlt : k < ls.length
  ·obtain ⟨x, hx⟩ := some_of_lt hlt
   obtain ⟨hpk, hslim⟩ := HPL.out k x hx
   have hmx := (HM.out wr HB.out x (List.mem_of_getElem? hx)).1
   obtain ⟨b, off, rfl, hbl, f0, f1⟩ := (HR.out wr HB.out).rv hx
   have hki : (k : Int) < (ls.length : Int) := by omega
   clear hx
   obtain ⟨⟨MA, mc⟩, ml, p⟩ := x
   dsimp only at f0 f1 hslim hpk hmx
   have hnum := hslim.num
   dsimp only at hnum
   have HFS := Lib.hid (first_step (f := f1S pat m) hpk)
   have hb5 : Below wr.heap.size wr (wr.alloc (.cells #[.slice MA ml.length mc, .string p] 93)) := (Below.refl _ _).alloc (Nat.le_refl _) _
   have hN5 : Blk (wr.alloc (.cells #[.slice MA ml.length mc, .string p] 93)) wr.heap.size 93 #[.slice MA ml.length mc, .string p] := Blk.new wr _ _
   have HB5 := Lib.hid (HB.out.trans (hb5.mono HB.out.size))
   have r0 : (wr.alloc (.cells #[.slice MA ml.length mc, .string p] 93)).cell? ⟨wr.heap.size, 0, none⟩ = some (.slice MA ml.length mc) := hN5.cell 0
   have r1 : (wr.alloc (.cells #[.slice MA ml.length mc, .string p] 93)).cell? ⟨wr.heap.size, 1, none⟩ = some (.string p) := hN5.cell 1
   have rlt := hN5.lt
   have HIN := Lib.hid (rInL_any MA mc ml m (wr.alloc (.cells #[.slice MA ml.length mc, .string p] 93)) (hmx.below hb5) (by omega))
   clear hb5 hN5 hslim hpk hmx
   have hpt := eq_str p pat
   by_cases hpe : p = pat
   ·have hq : (p.toList == pat.toList) = true := hpt.trans (decide_eq_true hpe)
    have hdp := decide_eq_true hpe
    clear hpt hpe
    cases hin : inL ml m
    ·have HO' := Lib.hid (show res = orElse3 (firstP (f1S pat m) (l.drop (k + 1)) (k + 1)) o2 o3 by rw [HO.out, HFS.out, if_neg (by unfold f1S; dsimp only; rw [hin]; simp)])
     rw [hin] at HIN
     clear hin HFS HO hdp
     go_wp2_with fail
     refine HIN.out.mono ?_
     rintro e w6 ⟨rfl, rfl⟩
     go_wp2
     go_roundw
     case rel => exact ⟨k + 1, by omega, by go_num, HO', HB5⟩
     case measure => simp [RowKit.intOf]; omega
    ·have HE := Lib.hid (show res = (k : Int) by rw [HO.out, HFS.out, if_pos (by unfold f1S; dsimp only; rw [hin, hdp]; rfl)]; rfl)
     rw [hin] at HIN
     clear hin HFS HO hdp
     go_wp2_with fail
     refine HIN.out.mono ?_
     rintro e w6 ⟨rfl, rfl⟩
     go_wp2
     go_ret
     exact ⟨by rw [HE.out]; rfl, HB5.out⟩
   ·have hq : (p.toList == pat.toList) = false := hpt.trans (decide_eq_false hpe)
    have HO' := Lib.hid (show res = orElse3 (firstP (f1S pat m) (l.drop (k + 1)) (k + 1)) o2 o3 by rw [HO.out, HFS.out, if_neg (by unfold f1S; dsimp only; rw [decide_eq_false hpe]; simp)])
    clear hpt hpe HFS HO
    go_wp2
    go_roundw
    case rel => exact ⟨k + 1, by omega, by go_num, HO', HB5⟩
    case measure => simp [RowKit.intOf]; omega
  ·obtain rfl : k = ls.length := by omega
   have HRES2 := Lib.hid (show res = orElse3 none (firstP (f2S pat m) (l.drop 0) 0) o3 by rw [HO.out, ← HLL.out, first_end, HO2.out])
   obtain ⟨xo, hxo⟩ : ∃ xo : World, xo = wr := ⟨_, rfl⟩
   subst hxo
   have HB1 := HB
   clear HO HB HRES HO2
   go_wp2
   go_loopw [34] (fun i wr => ∃ k : Nat, k ≤ ls.length ∧ i = .int .i64 k ∧ Hid (res = orElse3 none (firstP (f2S pat m) (l.drop k) k) o3) ∧ Hid (Below w.heap.size w wr)) (fun i _ => ls.length - (RowKit.intOf i).toNat)
   case atStart => exact ⟨0, by omega, rfl, HRES2, HB1⟩
   case round =>
    obtain ⟨k, hkl, rfl, HO, HB⟩ := hrel
    by_cases hlt : k < ls.length
    ·obtain ⟨x, hx⟩ := some_of_lt hlt
     obtain ⟨hpk, hslim⟩ := HPL.out k x hx
     have hmx := (HM.out wr HB.out x (List.mem_of_getElem? hx)).1
     obtain ⟨b, off, rfl, hbl, f0, f1⟩ := (HR.out wr HB.out).rv hx
     have hki : (k : Int) < (ls.length : Int) := by omega
     clear hx
     obtain ⟨⟨MA, mc⟩, ml, p⟩ := x
     dsimp only at f0 f1 hslim hpk hmx
     have hnum := hslim.num
     dsimp only at hnum
     have HFS := Lib.hid (first_step (f := f2S pat m) hpk)
     have hb5 : Below wr.heap.size wr (wr.alloc (.cells #[.slice MA ml.length mc, .string p] 93)) := (Below.refl _ _).alloc (Nat.le_refl _) _
     have hN5 : Blk (wr.alloc (.cells #[.slice MA ml.length mc, .string p] 93)) wr.heap.size 93 #[.slice MA ml.length mc, .string p] := Blk.new wr _ _
     have HB5 := Lib.hid (HB.out.trans (hb5.mono HB.out.size))
     have r0 : (wr.alloc (.cells #[.slice MA ml.length mc, .string p] 93)).cell? ⟨wr.heap.size, 0, none⟩ = some (.slice MA ml.length mc) := hN5.cell 0
     have r1 : (wr.alloc (.cells #[.slice MA ml.length mc, .string p] 93)).cell? ⟨wr.heap.size, 1, none⟩ = some (.string p) := hN5.cell 1
     have rlt := hN5.lt
     have HIN := Lib.hid (rInL_any MA mc ml mGet (wr.alloc (.cells #[.slice MA ml.length mc, .string p] 93)) (hmx.below hb5) (by omega))
     clear hb5 hN5 hslim hpk hmx
     have hpt := eq_str p pat
     have hht := head_test m
     by_cases hpe : p = pat
     ·have hq : (p.toList == pat.toList) = true := hpt.trans (decide_eq_true hpe)
      have hdp := decide_eq_true hpe
      clear hpt hpe
      by_cases hme : m = mHead
      ·have hh : (m.toList == [72, 69, 65, 68]) = true := hht.trans (decide_eq_true hme)
       have hdm := decide_eq_true hme
       clear hht hme
       cases hin : inL ml mGet
       ·have HO' := Lib.hid (show res = orElse3 none (firstP (f2S pat m) (l.drop (k + 1)) (k + 1)) o3 by rw [HO.out, HFS.out, if_neg (by unfold f2S; dsimp only; rw [hin]; simp)])
        rw [hin] at HIN
        clear hin HFS HO hdp hdm
        go_wp2_with fail
        refine HIN.out.mono ?_
        rintro e w6 ⟨rfl, rfl⟩
        go_wp2
        go_roundw
        case rel => exact ⟨k + 1, by omega, by go_num, HO', HB5⟩
        case measure => simp [RowKit.intOf]; omega
       ·have HE := Lib.hid (show res = (k : Int) by rw [HO.out, HFS.out, if_pos (by unfold f2S; dsimp only; rw [hin, hdp, hdm]; rfl)]; rfl)
        rw [hin] at HIN
        clear hin HFS HO hdp hdm
        go_wp2_with fail
        refine HIN.out.mono ?_
        rintro e w6 ⟨rfl, rfl⟩
        go_wp2
        go_ret
        exact ⟨by rw [HE.out]; rfl, HB5.out⟩
      ·have hh : (m.toList == [72, 69, 65, 68]) = false := hht.trans (decide_eq_false hme)
       have HO' := Lib.hid (show res = orElse3 none (firstP (f2S pat m) (l.drop (k + 1)) (k + 1)) o3 by rw [HO.out, HFS.out, if_neg (by unfold f2S; dsimp only; rw [decide_eq_false hme]; simp)])
       clear hht hme HFS HO hdp
       go_wp2
       go_roundw
       case rel => exact ⟨k + 1, by omega, by go_num, HO', HB5⟩
       case measure => simp [RowKit.intOf]; omega
     ·have hq : (p.toList == pat.toList) = false := hpt.trans (decide_eq_false hpe)
      have HO' := Lib.hid (show res = orElse3 none (firstP (f2S pat m) (l.drop (k + 1)) (k + 1)) o3 by rw [HO.out, HFS.out, if_neg (by unfold f2S; dsimp only; rw [decide_eq_false hpe]; simp)])
      clear hpt hpe HFS HO hht
      go_wp2
      go_roundw
      case rel => exact ⟨k + 1, by omega, by go_num, HO', HB5⟩
      case measure => simp [RowKit.intOf]; omega
    ·obtain rfl : k = ls.length := by omega
     have HRES3 := Lib.hid (show res = orElse3 none none (firstP (f3S pat) (l.drop 0) 0) by rw [HO.out, ← HLL.out, first_end, HO3.out])
     obtain ⟨xo2, hxo2⟩ : ∃ xo : World, xo = wr := ⟨_, rfl⟩
     subst hxo2
     have HB2 := HB
     clear HO HB HRES2 HO3
     go_wp2
     go_loopw [56] (fun i wr => ∃ k : Nat, k ≤ ls.length ∧ i = .int .i64 k ∧ Hid (res = orElse3 none none (firstP (f3S pat) (l.drop k) k)) ∧ Hid (Below w.heap.size w wr)) (fun i _ => ls.length - (RowKit.intOf i).toNat)
     case atStart => exact ⟨0, by omega, rfl, HRES3, HB2⟩
     case round =>
      obtain ⟨k, hkl, rfl, HO, HB⟩ := hrel
      by_cases hlt : k < ls.length
      ·obtain ⟨x, hx⟩ := some_of_lt hlt
       obtain ⟨hpk, hslim⟩ := HPL.out k x hx
       have hmx := (HM.out wr HB.out x (List.mem_of_getElem? hx)).1
       obtain ⟨b, off, rfl, hbl, f0, f1⟩ := (HR.out wr HB.out).rv hx
       have hki : (k : Int) < (ls.length : Int) := by omega
       clear hx
       obtain ⟨⟨MA, mc⟩, ml, p⟩ := x
       dsimp only at f0 f1 hslim hpk hmx
       have hnum := hslim.num
       dsimp only at hnum
       have HFS := Lib.hid (first_step (f := f3S pat) hpk)
       have hb5 : Below wr.heap.size wr (wr.alloc (.cells #[.slice MA ml.length mc, .string p] 93)) := (Below.refl _ _).alloc (Nat.le_refl _) _
       have hN5 : Blk (wr.alloc (.cells #[.slice MA ml.length mc, .string p] 93)) wr.heap.size 93 #[.slice MA ml.length mc, .string p] := Blk.new wr _ _
       have HB5 := Lib.hid (HB.out.trans (hb5.mono HB.out.size))
       have r0 : (wr.alloc (.cells #[.slice MA ml.length mc, .string p] 93)).cell? ⟨wr.heap.size, 0, none⟩ = some (.slice MA ml.length mc) := hN5.cell 0
       have r1 : (wr.alloc (.cells #[.slice MA ml.length mc, .string p] 93)).cell? ⟨wr.heap.size, 1, none⟩ = some (.string p) := hN5.cell 1
       have rlt := hN5.lt
       have HIN := Lib.hid (rInL_any MA mc ml m (wr.alloc (.cells #[.slice MA ml.length mc, .string p] 93)) (hmx.below hb5) (by omega))
       clear hb5 hN5 hslim hpk hmx
       have hpt := eq_str p pat
       clear HIN
       by_cases hpe : p = pat
       ·have hq : (p.toList == pat.toList) = true := hpt.trans (decide_eq_true hpe)
        have hdp := decide_eq_true hpe
        clear hpt hpe
        by_cases hze : ml.length = 0
        ·have hh : ((ml.length : Int) == 0) = true := beq_iff_eq.2 (by omega)
         have HE := Lib.hid (show res = (k : Int) by rw [HO.out, HFS.out, if_pos (by unfold f3S; dsimp only; rw [hdp, decide_eq_true hze]; rfl)]; rfl)
         clear HFS HO hdp hze
         go_wp2
         go_ret
         exact ⟨by rw [HE.out]; rfl, HB5.out⟩
        ·have hh : ((ml.length : Int) == 0) = false := beq_eq_false_iff_ne.2 (by omega)
         have HO' := Lib.hid (show res = orElse3 none none (firstP (f3S pat) (l.drop (k + 1)) (k + 1)) by rw [HO.out, HFS.out, if_neg (by unfold f3S; dsimp only; rw [decide_eq_false hze]; simp)])
         clear HFS HO hdp hze
         go_wp2
         go_roundw
         case rel => exact ⟨k + 1, by omega, by go_num, HO', HB5⟩
         case measure => simp [RowKit.intOf]; omega
       ·have hq : (p.toList == pat.toList) = false := hpt.trans (decide_eq_false hpe)
        have HO' := Lib.hid (show res = orElse3 none none (firstP (f3S pat) (l.drop (k + 1)) (k + 1)) by rw [HO.out, HFS.out, if_neg (by unfold f3S; dsimp only; rw [decide_eq_false hpe]; simp)])
        clear hpt hpe HFS HO
        go_wp2
        go_roundw
        case rel => exact ⟨k + 1, by omega, by go_num, HO', HB5⟩
        case measure => simp [RowKit.intOf]; omega
      ·obtain rfl : k = ls.length := by omega
       have HE := Lib.hid (show res = -1 by rw [HO.out, ← HLL.out, first_end]; rfl)
       go_wp2
       go_ret
       exact ⟨by rw [HE.out]; rfl, HB.out⟩
end Go.Proofs.YtiohmnhbmmhnhaaGreatDoor
namespace Go.Proofs.YtiohmnhbmmhnhaaGreatDoor
open Go.RowKit Go.Shelf Go.Lib
theorem less_list : ∀ x y : List UInt8, Op.bytesLess x y = decide (x < y)
 | [], [] => by simp [Op.bytesLess]
 | _ :: _, [] => by simp [Op.bytesLess]
 | [], _ :: _ => by simp [Op.bytesLess]
 | a :: x, b :: y => by
  rw [show Op.bytesLess (a :: x) (b :: y) = (decide (a < b) || (a == b && Op.bytesLess x y)) from rfl, less_list x y, Bool.eq_iff_iff]
  simp [List.cons_lt_cons_iff]
theorem less_iff (x y : ByteArray) : Op.bytesLess x.toList y.toList = true ↔ ltS x y := by
 rw [ByteArray.toList_eq, ByteArray.toList_eq, less_list, decide_eq_true_iff]
 exact Iff.rfl
theorem rLess_any (x y : ByteArray) (w : World) : Calls Tryz.prog 145 #[.string x, .string y] w fun e w' => e = .returned (.bool (Op.bytesLess x.toList y.toList)) ∧ w = w' := by
 go_enter Tryz.func145, Tryz.ntmps145
 go_wp2
 go_ret
 exact ⟨rfl, rfl⟩
theorem put_split {s : ByteArray} : ∀ (l : List ByteArray) (i : Nat), (∀ y ∈ l.take i, leS s y = false) → (∀ y, l[i]? = some y → leS s y = true) → i ≤ l.length → putIn leS s l = l.take i ++ s :: l.drop i
 | [], i, _, _, h => by
  obtain rfl : i = 0 := by simpa using h
  rfl
 | y :: l, 0, _, h2, _ => by
  unfold putIn
  rw [if_pos (h2 y rfl)]
  rfl
 | y :: l, i + 1, h1, h2, h3 => by
  unfold putIn
  rw [if_neg (by rw [h1 y (by simp)]; decide), put_split l i (fun z hz => h1 z (by simp [hz])) (fun z hz => h2 z (by simpa using hz)) (by simpa using h3)]
  rfl
theorem leS_of {s y : ByteArray} (h : ltS s y) : leS s y = true := Classical.byContradiction fun hn => ltS_irr _ (ltS_trans _ _ _ h (leS_not _ _ hn))
theorem leS_no {s y : ByteArray} (h : ltS y s) : leS s y = false := by
 cases hc : leS s y
 ·rfl
 ·by_cases e : s = y
  ·rw [e] at h
   exact absurd h (ltS_irr _)
  ·exact absurd (ltS_trans _ _ _ h (leS_lt _ _ hc e)) (ltS_irr _)
theorem put_end {s : ByteArray} {l : List ByteArray} {i : Nat} (hp : l.Pairwise ltS) (hs : s ∉ l) (hi : i ≤ l.length) (hge : ∀ y, l[i]? = some y → ltS s y) (hlt : ∀ k y, i = k + 1 → l[k]? = some y → ¬ ltS s y) :
  putIn leS s l = l.take i ++ s :: l.drop i := by
 refine put_split l i (fun y hy => ?_) (fun y hy => leS_of (hge y hy)) hi
 cases i with
 | zero => cases hy
 | succ k =>
  obtain ⟨z, hz⟩ := some_of_lt (show k < l.length by omega)
  have hzs : ltS z s := by
   by_cases hc : leS s z = true
   ·exact absurd (leS_lt _ _ hc (fun e => hs (by rw [e]; exact List.mem_of_getElem? hz))) (hlt k z rfl hz)
   ·exact leS_not _ _ hc
  rw [take_snoc hz, List.mem_append, List.mem_singleton] at hy
  rcases hy with hy | rfl
  ·have h1 := List.pairwise_append.1 (show (l.take k ++ l.drop k).Pairwise ltS by rw [List.take_append_drop]; exact hp)
   have hzd : z ∈ l.drop k := by rw [drop_some hz]; exact List.mem_cons_self ..
   exact leS_no (ltS_trans _ _ _ (h1.2.2 y hy z hzd) hzs)
  ·exact leS_no hzs
def stepG {α : Type} [DecidableEq α] (le : α → α → Bool) (out : List α) (s : α) : List α := if out.contains s then out else putIn le s out
theorem stepG_in {α : Type} [DecidableEq α] {le : α → α → Bool} {out : List α} {s : α} (h : s ∈ out) : stepG le out s = out := if_pos (List.contains_iff_mem.2 h)
theorem stepG_out {α : Type} [DecidableEq α] {le : α → α → Bool} {out : List α} {s : α} (h : s ∉ out) : stepG le out s = putIn le s out := if_neg fun hc => h (List.contains_iff_mem.1 hc)
theorem rising_step {α : Type} [DecidableEq α] (le : α → α → Bool) (l : List α) : rising le l = l.foldl (stepG le) [] := rfl
abbrev stepR (out : List ByteArray) (s : ByteArray) : List ByteArray := stepG leS out s
theorem rising_R (l : List ByteArray) : rising leS l = l.foldl stepR [] := rising_step leS l
theorem step_in {out : List ByteArray} {s : ByteArray} (h : inL out s = true) : stepR out s = out := stepG_in (inL_iff.1 h)
theorem step_out {out : List ByteArray} {s : ByteArray} (h : inL out s = false) : stepR out s = putIn leS s out ∧ s ∉ out := by
 have hn : s ∉ out := fun hm => by rw [inL_iff.2 hm] at h; cases h
 exact ⟨stepG_out hn, hn⟩
def gapL (l : List ByteArray) (i : Nat) (g : ByteArray) : List ByteArray := l.take i ++ g :: l.drop i
theorem gap_len {l : List ByteArray} {i : Nat} (h : i ≤ l.length) (g : ByteArray) : (gapL l i g).length = l.length + 1 := by
 unfold gapL
 rw [List.length_append, List.length_take, List.length_cons, List.length_drop]
 omega
theorem gp_at {l : List ByteArray} {k : Nat} {y : ByteArray} (h : l[k]? = some y) (g : ByteArray) : (gapL l (k + 1) g)[k]? = some y := by
 have hk := lt_of_some h
 unfold gapL
 rw [List.getElem?_append_left (by rw [List.length_take]; omega), List.getElem?_take_of_lt (by omega)]
 exact h
theorem gap_set {l : List ByteArray} {i : Nat} (h : i ≤ l.length) (g u : ByteArray) : (gapL l i g).set i u = gapL l i u := by
 unfold gapL
 rw [List.set_append_right _ _ (by rw [List.length_take]; omega), List.length_take, Nat.min_eq_left h, Nat.sub_self]
 rfl
theorem gap_down {l : List ByteArray} {k : Nat} {y : ByteArray} (h : l[k]? = some y) : gapL l (k + 1) y = gapL l k y := by
 unfold gapL
 rw [take_snoc h, drop_some h, List.append_assoc]
 rfl
theorem gap_end (l : List ByteArray) (g : ByteArray) : gapL l l.length g = l ++ [g] := by
 unfold gapL
 rw [List.take_length, List.drop_length]
set_option maxRecDepth 100000 in
set_option maxHeartbeats 4000000 in
theorem rRising_any (A : Option Addr) (c : Nat) (l : List ByteArray) (w : World) (hr : Row w A (l.map .string)) (hl : l.length ≤ 1099511627776) :
  Calls Tryz.prog 101 #[.slice A l.length c] w (GivesTx w (rising leS l)) := by
 obtain ⟨i0, hi0, hz0, hz1, hz2⟩ := info_parts info_string
 have HR := Lib.hid (fun (W : World) (h : Below w.heap.size w W) => hr.below h)
 clear hr
 go_enter Tryz.func101, Tryz.ntmps101
 go_wp2
 go_loopw [3, 9] (fun v i wr => ∃ (k : Nat) (out : List ByteArray), k ≤ l.length ∧ out.length ≤ k ∧ i = .int .i64 k ∧ Hid (wr.ownsRow w.heap.size 9 1 v out.length (out.map .string)) ∧ Hid ((l.take k).foldl stepR [] = out) ∧ Hid (out.Pairwise ltS) ∧ Hid (Below w.heap.size w wr)) (fun _ i _ => l.length - (RowKit.intOf i).toNat)
 case atStart => exact ⟨0, [], by omega, by simp, rfl, Lib.hid (World.ownsRow_nil _ _ _ _), Lib.hid rfl, Lib.hid List.Pairwise.nil, Lib.hid (Below.refl _ _)⟩
 case round =>
  obtain ⟨k, out, hkl, hok, rfl, HO, HF, HW, HB⟩ := hrel
  obtain ⟨OA, oc, rfl⟩ := own_slice HO.out
  by_cases hlt : k < l.length
  ·obtain ⟨s, hs⟩ := some_of_lt hlt
   obtain ⟨b, off, rfl, hbl, f0⟩ := (HR.out wr HB.out).str hs
   have hki : (k : Int) < (l.length : Int) := by omega
   have HST := Lib.hid (show (l.take (k + 1)).foldl stepR [] = stepR out s by rw [fold_snoc _ _ hs, HF.out])
   have HIN := Lib.hid (rInL_any OA oc out s wr (own_row HO.out) (by omega))
   clear hs HF
   cases hin : inL out s
   ·obtain ⟨hst, hnot⟩ := step_out hin
    have HST' := Lib.hid (HST.out.trans hst)
    have HNO := Lib.hid hnot
    rw [hin] at HIN
    clear hin HST hst hnot
    go_wp2_with fail
    refine HIN.out.mono ?_
    rintro e w1 ⟨rfl, rfl⟩
    have hw1 : w.heap.size ≤ wr.heap.size := HB.out.size
    go_wp2_with (at_builtin; refine wpList_append_any _ rfl (.tmp 18) (.tmp 20) 33 rfl w.heap.size 9 i0 (.string ⟨#[]⟩) 1 16 Tryz.underlying33 hi0 hz0 hz1 hz2 rfl (by decide) (.slice OA out.length oc) out.length (out.map .string) rfl (HO.out.alloc _) _ (some ⟨wr.heap.size, 0, none⟩) 1 1 [.string s] rfl (reads_of_row (row_newc wr _ 9 (by simp)) rfl (by decide)) (by intro u hu; simp at hu; subst hu; rfl) (by unfold maxLen; omega) (by omega) (by simp; omega) ?_; intro v5 w5 hown5 hg5 halt5)
    have HO5 := Lib.hid (show w5.ownsRow w.heap.size 9 1 v5 (out.length + 1) ((gapL out out.length s).map .string) from by rw [gap_end, List.map_append]; exact hown5)
    have HB5 := Lib.hid ((HB.out.alloc HB.out.size (.cells #[.string s] 9)).grown hg5 (by simp; omega) (own_lt HO.out))
    obtain ⟨A5, c5, rfl⟩ := own_slice hown5
    obtain ⟨g, rfl, hbg, _⟩ := own_some hown5 (by omega)
    have HBG := Lib.hid hbg
    clear hown5 hg5 halt5 HIN HO hbg hw1
    obtain ⟨xo, hxo⟩ : ∃ xo : World, xo = wr := ⟨_, rfl⟩
    subst hxo
    go_loopw [6] (fun i wr => ∃ (j : Nat) (gp : ByteArray), j ≤ out.length ∧ i = .int .i64 j ∧ Hid (wr.ownsRow w.heap.size 9 1 (.slice (some ⟨g, 0, none⟩) (out.length + 1) c5) (out.length + 1) ((gapL out j gp).map .string)) ∧ Hid (∀ y, out[j]? = some y → ltS s y) ∧ Hid (Below w.heap.size w wr)) (fun i _ => (RowKit.intOf i).toNat)
    case atStart => exact ⟨out.length, s, Nat.le_refl _, rfl, HO5, Lib.hid (fun y hy => absurd (lt_of_some hy) (Nat.lt_irrefl _)), HB5⟩
    case round =>
     obtain ⟨j, gp, hj, rfl, HOJ, HGE, HBJ⟩ := hrel
     have hst := HOJ.out.stored j (.string s)
     have hfz : wr.frozen? ⟨g, j, none⟩ = false := HOJ.out.frozenAt _
     have hcj : wr.cell? ⟨g, j, none⟩ = some (.string gp) := by
      rw [HOJ.out.cellAt _ (by omega), List.getElem?_map]
      unfold gapL
      rw [List.getElem?_append_right (by rw [List.length_take]; omega), List.length_take, Nat.min_eq_left hj, Nat.sub_self]
      rfl
     have hgl : g < wr.heap.size := by
      obtain ⟨_, e, _, h⟩ := own_some HOJ.out (by omega)
      injection e with e
      injection e with e
      rw [e]
      exact h
     have hjl : j < out.length + 1 := by omega
     have hjk : (j : Int) < ((out.length + 1 : Nat) : Int) := by omega
     have HEND := Lib.hid (show (∀ k y, j = k + 1 → out[k]? = some y → ¬ ltS s y) → putIn leS s out = gapL out j s from fun h => put_end HW.out HNO.out hj HGE.out h)
     have HST2 := Lib.hid (show (wr.setCell ⟨g, j, none⟩ (.string s)).ownsRow w.heap.size 9 1 (.slice (some ⟨g, 0, none⟩) (out.length + 1) c5) (out.length + 1) ((gapL out j s).map .string) from by
      have h1 := hst.1
      rw [← List.map_set, gap_set hj] at h1
      exact h1)
     have HB2 := Lib.hid (HBJ.out.setCell (p := ⟨g, j, none⟩) HBG.out (.string s))
     clear hst
     by_cases hj0 : j = 0
     ·have hp : putIn leS s out = gapL out j s := HEND.out fun k y e => by omega
      have HF' := Lib.hid (HST'.out.trans hp)
      have HL2 := Lib.hid (show (gapL out j s).length = out.length + 1 from gap_len hj s)
      have HW2 := Lib.hid (show (gapL out j s).Pairwise ltS by rw [← hp]; exact put_rise leS_lt leS_not ltS_trans HW.out HNO.out)
      have hj1 : ¬ 0 < (j : Int) := by omega
      clear hp HEND hj0
      have HST3 := Lib.hid (show (wr.setCell ⟨g, j, none⟩ (.string s)).ownsRow w.heap.size 9 1 (.slice (some ⟨g, 0, none⟩) (out.length + 1) c5) (gapL out j s).length ((gapL out j s).map .string) from by rw [HL2.out]; exact HST2.out)
      have hle : (gapL out j s).length ≤ k + 1 := by rw [HL2.out]; omega
      go_wp2
      go_roundw
      case rel => exact ⟨k + 1, gapL out j s, by omega, hle, by go_num, HST3, HF', HW2, HB2⟩
      case measure => simp [RowKit.intOf]; omega
     ·obtain ⟨m, hm⟩ : ∃ m, j = m + 1 := ⟨j - 1, by omega⟩
      obtain ⟨y, hy⟩ := some_of_lt (show m < out.length by omega)
      have hcm : wr.cell? ⟨g, m, none⟩ = some (.string y) := by
       rw [HOJ.out.cellAt _ (by omega), List.getElem?_map, hm, gp_at hy]
       rfl
      subst hm
      have HLS := Lib.hid (rLess_any s y wr)
      have hlf := less_iff s y
      have HY := Lib.hid hy
      cases hls : Op.bytesLess s.toList y.toList
      ·have hnl : ¬ ltS s y := fun h => by rw [hlf.2 h] at hls; cases hls
       have hp : putIn leS s out = gapL out (m + 1) s := HEND.out fun k y' e hy' => by
        obtain rfl : k = m := by omega
        rw [HY.out] at hy'
        injection hy' with hy'
        rw [← hy']
        exact hnl
       have HF' := Lib.hid (HST'.out.trans hp)
       have HL2 := Lib.hid (show (gapL out (m + 1) s).length = out.length + 1 from gap_len hj s)
       have HW2 := Lib.hid (show (gapL out (m + 1) s).Pairwise ltS by rw [← hp]; exact put_rise leS_lt leS_not ltS_trans HW.out HNO.out)
       have HST3 := Lib.hid (show (wr.setCell ⟨g, m + 1, none⟩ (.string s)).ownsRow w.heap.size 9 1 (.slice (some ⟨g, 0, none⟩) (out.length + 1) c5) (gapL out (m + 1) s).length ((gapL out (m + 1) s).map .string) from by rw [HL2.out]; exact HST2.out)
       have hle : (gapL out (m + 1) s).length ≤ k + 1 := by rw [HL2.out]; omega
       rw [hls] at HLS
       clear hp HEND hj0 hnl hls hlf hy HGE
       go_wp2_with fail
       refine HLS.out.mono ?_
       rintro e w8 ⟨rfl, rfl⟩
       go_wp2
       go_roundw
       case rel => exact ⟨k + 1, gapL out (m + 1) s, by omega, hle, by go_num, HST3, HF', HW2, HB2⟩
       case measure => simp [RowKit.intOf]; omega
      ·have hyl : ltS s y := hlf.1 hls
       have hst := HOJ.out.stored (m + 1) (.string y)
       have HOY := Lib.hid (show (wr.setCell ⟨g, m + 1, none⟩ (.string y)).ownsRow w.heap.size 9 1 (.slice (some ⟨g, 0, none⟩) (out.length + 1) c5) (out.length + 1) ((gapL out m y).map .string) from by
        have h1 := hst.1
        rw [← List.map_set, gap_set hj, gap_down hy] at h1
        exact h1)
       have HBY := Lib.hid (HBJ.out.setCell (p := ⟨g, m + 1, none⟩) HBG.out (.string y))
       have HGY := Lib.hid (show ∀ z, out[m]? = some z → ltS s z from fun z hz => by rw [HY.out] at hz; injection hz with hz; rw [← hz]; exact hyl)
       rw [hls] at HLS
       clear HEND hj0 hls hlf hy HGE hst hyl HST2 HB2
       go_wp2_with fail
       refine HLS.out.mono ?_
       rintro e w8 ⟨rfl, rfl⟩
       go_wp2
       go_roundw
       case rel => exact ⟨m, y, by omega, by go_num, HOY, HGY, HBY⟩
       case measure => simp [RowKit.intOf]
   ·have HF' := Lib.hid (HST.out.trans (step_in hin))
    rw [hin] at HIN
    clear hin HST
    go_wp2_with fail
    refine HIN.out.mono ?_
    rintro e w1 ⟨rfl, rfl⟩
    go_wp2
    go_roundw
    case rel => exact ⟨k + 1, out, by omega, by omega, by go_num, HO, HF', HW, HB⟩
    case measure => simp [RowKit.intOf]; omega
  ·obtain rfl : k = l.length := by omega
   have HE := Lib.hid (show rising leS l = out by rw [rising_R, ← HF.out, List.take_length])
   go_wp2
   go_ret
   rw [HE.out]
   exact ⟨OA, oc, rfl, HO.out, HB.out⟩
end Go.Proofs.YtiohmnhbmmhnhaaGreatDoor
namespace Go.Proofs.YtiohmnhbmmhnhaaGreatDoor
open Go.RowKit Go.Shelf Go.Lib
theorem str_oneCell (l : List ByteArray) : ∀ u ∈ l.map Value.string, u.oneCell' = true := by
 intro u hu
 obtain ⟨y, _, rfl⟩ := List.mem_map.1 hu
 rfl
theorem gives_tx_eq {w w' : World} {l m : List ByteArray} {e : Ending} (h : GivesTx w l e w') (hlm : l = m) : GivesTx w m e w' := hlm ▸ h
set_option maxRecDepth 100000 in
set_option maxHeartbeats 4000000 in
theorem rWith_any (A : Option Addr) (c : Nat) (l : List ByteArray) (w : World) (hr : Row w A (l.map .string)) (hl : l.length ≤ 1073741824) :
  Calls Tryz.prog 58 #[.slice A l.length c] w (GivesTx w (rising leS (withL l))) := by
 obtain ⟨i0, hi0, hz0, hz1, hz2⟩ := info_parts info_string
 have HR := Lib.hid (fun (W : World) (h : Below w.heap.size w W) => hr.below h)
 have HO0 := Lib.hid (own_noS w)
 have HB0 : Hid (Below w.heap.size w (w.alloc (.cells #[] 9))) := Lib.hid ((Below.refl _ w).alloc (Nat.le_refl _) _)
 clear hr
 go_enter Tryz.func58, Tryz.ntmps58
 go_wp2_with (first
  | (at_builtin; refine wpList_append_any _ rfl (.tmp 4) (.tmp 5) 33 rfl w.heap.size 9 i0 (.string ⟨#[]⟩) 1 16 Tryz.underlying33 hi0 hz0 hz1 hz2 rfl (by decide) (.slice (some ⟨w.heap.size, 0, none⟩) 0 0) 0 [] rfl HO0.out _ A l.length c (l.map .string) rfl (reads_of_row (HR.out _ HB0.out) (by simp) (by decide)) (str_oneCell l) (by unfold maxLen; omega) (by omega) (by simp) ?_; intro v1 w1 hown1 hg1 halt1; rw [Nat.zero_add] at hown1; obtain ⟨B1, c1, rfl⟩ := own_slice hown1; (have HB1 := Lib.hid (HB0.out.grown hg1 (by simp) (fun k hk => by simp [Value.ownBlock] at hk; omega))); (have HO1 := Lib.hid (show w1.ownsRow w.heap.size 9 1 (.slice B1 l.length c1) l.length (l.map .string) from hown1)); clear hown1 hg1 halt1)
  | (at_builtin; refine wpList_append_any _ rfl (.tmp 6) (.tmp 7) 33 rfl w.heap.size 9 i0 (.string ⟨#[]⟩) 1 16 Tryz.underlying33 hi0 hz0 hz1 hz2 rfl (by decide) (.slice B1 l.length c1) l.length (l.map .string) rfl (HO1.out.alloc _) _ (some ⟨w1.heap.size, 0, none⟩) 1 1 [.string ⟨#[79, 80, 84, 73, 79, 78, 83]⟩] rfl (reads_of_row (row_newc w1 _ 9 (by simp)) rfl (by decide)) (by intro u hu; simp at hu; subst hu; rfl) (by unfold maxLen; omega) (by omega) (by have := HB1.out.size; simp; omega) ?_; intro v2 w2 hown2 hg2 halt2))
 have HB2 := Lib.hid ((HB1.out.alloc HB1.out.size (.cells #[.string ⟨#[79, 80, 84, 73, 79, 78, 83]⟩] 9)).grown hg2 (by have := HB1.out.size; simp; omega) (own_lt HO1.out))
 obtain ⟨B2, c2, rfl⟩ := own_slice hown2
 have HO2 := Lib.hid (show w2.ownsRow w.heap.size 9 1 (.slice B2 (l.length + 1) c2) (l.length + 1) ((l ++ [mOpt]).map .string) from by rw [List.map_append]; exact hown2)
 have HIN := Lib.hid (rInL_any A c l mGet w2 (HR.out w2 HB2.out) (by omega))
 clear hown2 hg2 halt2 HO1
 cases hin : inL l mGet
 ·have hw : withL l = l ++ [mOpt] := by unfold withL; rw [hin, if_neg (by decide), List.append_nil]
  have HW := Lib.hid hw
  have HRI := Lib.hid (show Calls Tryz.prog 101 #[.slice B2 (l.length + 1) c2] w2 (GivesTx w2 (rising leS (withL l))) from by
   have := rRising_any B2 c2 (l ++ [mOpt]) w2 (own_row HO2.out) (by rw [List.length_append]; simp; omega)
   rw [List.length_append] at this
   rw [hw]
   exact this)
  rw [hin] at HIN
  clear hin hw
  go_wp2_with fail
  refine HIN.out.mono ?_
  rintro e w3 ⟨rfl, rfl⟩
  go_wp2_with fail
  refine HRI.out.mono ?_
  rintro e w4 ⟨B4, c4, rfl, ho4, hb4⟩
  have HG := Lib.hid (show GivesTx w (rising leS (withL l)) (.returned (.slice B4 (rising leS (withL l)).length c4)) w4 from ⟨B4, c4, rfl, ho4.mono HB2.out.size, HB2.out.trans (hb4.mono HB2.out.size)⟩)
  clear ho4 hb4
  go_wp2
  go_ret
  exact HG.out
 ·have hw : withL l = (l ++ [mOpt]) ++ [mHead] := by unfold withL; rw [hin, if_pos rfl]
  have HW := Lib.hid hw
  rw [hin] at HIN
  clear hin hw
  go_wp2_with fail
  refine HIN.out.mono ?_
  rintro e w3 ⟨rfl, rfl⟩
  go_wp2_with (at_builtin; refine wpList_append_any _ rfl (.tmp 11) (.tmp 12) 33 rfl w.heap.size 9 i0 (.string ⟨#[]⟩) 1 16 Tryz.underlying33 hi0 hz0 hz1 hz2 rfl (by decide) (.slice B2 (l.length + 1) c2) (l.length + 1) ((l ++ [mOpt]).map .string) rfl (HO2.out.alloc _) _ (some ⟨w2.heap.size, 0, none⟩) 1 1 [.string ⟨#[72, 69, 65, 68]⟩] rfl (reads_of_row (row_newc w2 _ 9 (by simp)) rfl (by decide)) (by intro u hu; simp at hu; subst hu; rfl) (by unfold maxLen; omega) (by omega) (by have := HB2.out.size; simp; omega) ?_; intro v5 w5 hown5 hg5 halt5; (have HB5 := Lib.hid ((HB2.out.alloc HB2.out.size (.cells #[.string ⟨#[72, 69, 65, 68]⟩] 9)).grown hg5 (by have := HB2.out.size; simp; omega) (own_lt HO2.out))); obtain ⟨B5, c5, rfl⟩ := own_slice hown5; (have HO5 := Lib.hid (show w5.ownsRow w.heap.size 9 1 (.slice B5 (l.length + 1 + 1) c5) (l.length + 1 + 1) (((l ++ [mOpt]) ++ [mHead]).map .string) from by rw [List.map_append]; exact hown5)); (have HRI := Lib.hid (show Calls Tryz.prog 101 #[.slice B5 (l.length + 1 + 1) c5] w5 (GivesTx w5 (rising leS (withL l))) from by
   have := rRising_any B5 c5 ((l ++ [mOpt]) ++ [mHead]) w5 (own_row HO5.out) (by rw [List.length_append, List.length_append]; simp; omega)
   rw [List.length_append, List.length_append] at this
   rw [HW.out]
   exact this)); clear hown5 hg5 halt5)
  refine HRI.out.mono ?_
  rintro e w6 ⟨B6, c6, rfl, ho6, hb6⟩
  have HG := Lib.hid (show GivesTx w (rising leS (withL l)) (.returned (.slice B6 (rising leS (withL l)).length c6)) w6 from ⟨B6, c6, rfl, ho6.mono HB5.out.size, HB5.out.trans (hb6.mono HB5.out.size)⟩)
  clear ho6 hb6
  go_wp2
  go_ret
  exact HG.out
end Go.Proofs.YtiohmnhbmmhnhaaGreatDoor
namespace Go.Proofs.YtiohmnhbmmhnhaaGreatDoor
open Go.RowKit Go.Shelf Go.Lib
theorem allR_take {l : List Rt} {k : Nat} {r : Rt} (h : l[k]? = some r) (g : Rt → Bool) : allR (l.take (k + 1)) g = allR (l.take k) g ++ (if g r = true then r.1 else []) := by
 unfold allR
 rw [take_snoc h, List.filter_append, List.flatMap_append]
 congr 1
 by_cases hg : g r = true
 ·rw [List.filter_cons, if_pos hg, if_pos hg]
  simp
 ·rw [List.filter_cons, if_neg hg, if_neg hg]
  simp
theorem acc_len {l : List Rt} {n : Nat} (hk : bulkRt l ≤ 1048576) (_hl : l.length = n) (g : Rt → Bool) (k : Nat) : (allR (l.take k) g).length ≤ 1048576 := by
 have h1 := allR_len g (l.take k)
 have h2 := bulkRt_append (l.take k) (l.drop k)
 rw [List.take_append_drop] at h2
 omega
def GivesAl (w : World) (o : Option (List ByteArray)) (e : Ending) (w' : World) : Prop :=
 ∃ A c, e = .returned (.tuple #[.slice A (o.getD []).length c, .bool o.isSome]) ∧ w'.ownsRow w.heap.size 9 1 (.slice A (o.getD []).length c) (o.getD []).length ((o.getD []).map .string) ∧ Below w.heap.size w w'
theorem gives_al {w w0 w' : World} {o : Option (List ByteArray)} {l : List ByteArray} {A : Option Addr} {c : Nat} (h : o = some l) (ho : w'.ownsRow w0.heap.size 9 1 (.slice A l.length c) l.length (l.map .string)) (hs : w.heap.size ≤ w0.heap.size) (hb : Below w.heap.size w w') : GivesAl w o (.returned (.tuple #[.slice A l.length c, .bool true])) w' := by
 subst h
 exact ⟨A, c, rfl, ho.mono hs, hb⟩
theorem gives_al_no {w w' : World} {o : Option (List ByteArray)} (h : o = none) (hb : Below w.heap.size w w') : GivesAl w o (.returned (.tuple #[.slice none 0 0, .bool false])) w' := by
 subst h
 exact ⟨none, 0, rfl, World.ownsRow_nil _ _ _ _, hb⟩
def allowR (l : List Rt) (path : ByteArray) : Option (List ByteArray) := (patR l path).map fun p => allowOf l (fun r : Rt => decide (r.2 = p))
set_option maxRecDepth 100000 in
set_option maxHeartbeats 4000000 in
theorem rAllow_any (A : Option Addr) (c : Nat) (ls : List Rv) (path : ByteArray) (w : World) (hr : Row w A (flatR ls)) (hm : MOk w ls) (hk : bulkRt (plR ls) ≤ 1048576) (hp : path.size ≤ 4194304) :
  Calls Tryz.prog 23 #[.slice A ls.length c, .string path] w (GivesAl w (allowR (plR ls) path)) := by
 obtain ⟨i0, hi0, hz0, hz1, hz2⟩ := info_parts info_string
 have hlen4 := bulkRt_len (plR ls)
 rw [plR_length] at hlen4
 have hlen5 : ls.length ≤ 262144 := by omega
 have HPA := Lib.hid (rPattern_any A c ls path w hr hk hp)
 have HR := Lib.hid (fun (W : World) (h : Below w.heap.size w W) => hr.below h)
 have HM := Lib.hid (fun (W : World) (h : Below w.heap.size w W) => hm.below h)
 obtain ⟨l, hl⟩ : ∃ l, plR ls = l := ⟨_, rfl⟩
 rw [hl] at hk HPA ⊢
 have HK := Lib.hid hk
 have HLL := Lib.hid (show l.length = ls.length by rw [← hl, plR_length])
 have HPL := Lib.hid (fun (k : Nat) (x : Rv) (h : ls[k]? = some x) => (show l[k]? = some x.2 ∧ Slim x.2 from ⟨by rw [← hl]; exact plR_get h, slim_mem hk (by rw [← hl]; exact List.mem_of_getElem? (plR_get h))⟩))
 obtain ⟨al, hal⟩ : ∃ al, allowR l path = al := ⟨_, rfl⟩
 have HAL := Lib.hid hal
 rw [hal]
 clear hr hm hk hl hal
 go_enter Tryz.func23, Tryz.ntmps23
 go_wp2_with fail
 refine HPA.out.mono ?_
 rintro e w1 ⟨rfl, hb1⟩
 have HB1 := Lib.hid hb1
 unfold allowR at HAL
 cases hpt : patR l path with
 | none =>
  rw [hpt] at HAL
  have HE := Lib.hid (gives_al_no HAL.out.symm HB1.out)
  clear hpt hb1 HPA
  simp only [patV, Option.getD_none, Option.isSome_none]
  go_wp2
  refine bodyPost_ret (results_two rfl _ _ _) rfl ?_
  exact HE.out
 | some pat =>
  rw [hpt] at HAL
  have HAL2 := Lib.hid (show al = some (rising leS (withL (allR l (fun r : Rt => decide (r.2 = pat))))) from HAL.out.symm)
  clear hpt hb1 HPA HAL
  simp only [patV, Option.getD_some, Option.isSome_some]
  go_wp2
  go_loopw [8, 21] (fun v i wr => ∃ k : Nat, k ≤ ls.length ∧ i = .int .i64 k ∧ Hid (wr.ownsRow w.heap.size 9 1 v (allR (l.take k) (fun r : Rt => decide (r.2 = pat))).length ((allR (l.take k) (fun r : Rt => decide (r.2 = pat))).map .string)) ∧ Hid (Below w.heap.size w wr)) (fun _ i _ => ls.length - (RowKit.intOf i).toNat)
  case atStart => exact ⟨0, by omega, rfl, Lib.hid (World.ownsRow_nil _ _ _ _), HB1⟩
  case round =>
   obtain ⟨k, hkl, rfl, HO, HB⟩ := hrel
   obtain ⟨SA, sc, rfl⟩ := own_slice HO.out
   have hacc := acc_len HK.out HLL.out (fun r : Rt => decide (r.2 = pat)) k
   by_cases hlt : k < ls.length
   ·obtain ⟨x, hx⟩ := some_of_lt hlt
    obtain ⟨hpk, hslim⟩ := HPL.out k x hx
    have hmx := (HM.out wr HB.out x (List.mem_of_getElem? hx)).1
    obtain ⟨b, off, rfl, hbl, f0, f1⟩ := (HR.out wr HB.out).rv hx
    have hki : (k : Int) < (ls.length : Int) := by omega
    clear hx
    obtain ⟨⟨MA, mc⟩, ml, p⟩ := x
    dsimp only at f0 f1 hslim hpk hmx
    have hnum := hslim.num
    dsimp only at hnum
    have HPK := Lib.hid hpk
    have hb5 : Below wr.heap.size wr (wr.alloc (.cells #[.slice MA ml.length mc, .string p] 93)) := (Below.refl _ _).alloc (Nat.le_refl _) _
    have hN5 : Blk (wr.alloc (.cells #[.slice MA ml.length mc, .string p] 93)) wr.heap.size 93 #[.slice MA ml.length mc, .string p] := Blk.new wr _ _
    have HB5 := Lib.hid (HB.out.trans (hb5.mono HB.out.size))
    have r0 : (wr.alloc (.cells #[.slice MA ml.length mc, .string p] 93)).cell? ⟨wr.heap.size, 0, none⟩ = some (.slice MA ml.length mc) := hN5.cell 0
    have r1 : (wr.alloc (.cells #[.slice MA ml.length mc, .string p] 93)).cell? ⟨wr.heap.size, 1, none⟩ = some (.string p) := hN5.cell 1
    have rlt := hN5.lt
    have HMX := Lib.hid (hmx.below hb5)
    have HOX := Lib.hid (own_below HO.out hb5)
    have hws : w.heap.size ≤ wr.heap.size := HB.out.size
    clear hb5 hN5 hslim hpk hmx
    have hpt := eq_str p pat
    by_cases hpe : p = pat
    ·have hq : (p.toList == pat.toList) = true := hpt.trans (decide_eq_true hpe)
     have HAC := Lib.hid (show allR (l.take (k + 1)) (fun r : Rt => decide (r.2 = pat)) = allR (l.take k) (fun r : Rt => decide (r.2 = pat)) ++ ml by rw [allR_take HPK.out, if_pos (decide_eq_true hpe)])
     clear hpt hpe
     go_wp2_with (at_builtin; refine wpList_append_any _ rfl (.tmp 29) (.tmp 31) 33 rfl w.heap.size 9 i0 (.string ⟨#[]⟩) 1 16 Tryz.underlying33 hi0 hz0 hz1 hz2 rfl (by decide) (.slice SA (allR (l.take k) (fun r : Rt => decide (r.2 = pat))).length sc) (allR (l.take k) (fun r : Rt => decide (r.2 = pat))).length ((allR (l.take k) (fun r : Rt => decide (r.2 = pat))).map .string) rfl HOX.out _ MA ml.length mc (ml.map .string) rfl (reads_of_row HMX.out (by simp) (by decide)) (str_oneCell ml) (by unfold maxLen; omega) (by omega) (by simp; omega) ?_; intro v6 w6 hown6 hg6 halt6)
     have HB6 := Lib.hid (HB5.out.grown hg6 (by simp; omega) (own_lt HOX.out))
     have HO6 := Lib.hid (show w6.ownsRow w.heap.size 9 1 v6 (allR (l.take (k + 1)) (fun r : Rt => decide (r.2 = pat))).length ((allR (l.take (k + 1)) (fun r : Rt => decide (r.2 = pat))).map .string) from by rw [HAC.out, List.map_append, List.length_append]; exact hown6)
     clear hown6 hg6 halt6 HO HOX
     go_roundw
     case rel => exact ⟨k + 1, by omega, by go_num, HO6, HB6⟩
     case measure => simp [RowKit.intOf]; omega
    ·have hq : (p.toList == pat.toList) = false := hpt.trans (decide_eq_false hpe)
     have HAC := Lib.hid (show allR (l.take (k + 1)) (fun r : Rt => decide (r.2 = pat)) = allR (l.take k) (fun r : Rt => decide (r.2 = pat)) by rw [allR_take HPK.out, if_neg (by rw [decide_eq_false hpe]; decide), List.append_nil])
     have HO6 := Lib.hid (show (wr.alloc (.cells #[.slice MA ml.length mc, .string p] 93)).ownsRow w.heap.size 9 1 (.slice SA (allR (l.take k) (fun r : Rt => decide (r.2 = pat))).length sc) (allR (l.take (k + 1)) (fun r : Rt => decide (r.2 = pat))).length ((allR (l.take (k + 1)) (fun r : Rt => decide (r.2 = pat))).map .string) from by rw [HAC.out]; exact HOX.out)
     clear hpt hpe HO HOX
     go_wp2
     go_roundw
     case rel => exact ⟨k + 1, by omega, by go_num, HO6, HB5⟩
     case measure => simp [RowKit.intOf]; omega
   ·obtain rfl : k = ls.length := by omega
    have hta : l.take ls.length = l := by rw [← HLL.out, List.take_length]
    rw [hta] at HO hacc ⊢
    have HW := Lib.hid (rWith_any SA sc (allR l (fun r : Rt => decide (r.2 = pat))) wr (own_row HO.out) (by omega))
    clear hta HO
    go_wp2_with fail
    refine HW.out.mono ?_
    rintro e w4 ⟨B4, c4, rfl, ho4, hb4⟩
    have HE := Lib.hid (gives_al HAL2.out ho4 HB.out.size (HB.out.trans (hb4.mono HB.out.size)))
    clear ho4 hb4
    go_wp2
    refine bodyPost_ret (results_two rfl _ _ _) rfl ?_
    exact HE.out
set_option maxRecDepth 100000 in
set_option maxHeartbeats 4000000 in
theorem rAll_any (A : Option Addr) (c : Nat) (ls : List Rv) (w : World) (hr : Row w A (flatR ls)) (hm : MOk w ls) (hk : bulkRt (plR ls) ≤ 1048576) :
  Calls Tryz.prog 27 #[.slice A ls.length c] w (GivesTx w (allowOf (plR ls) (fun _ : Rt => true))) := by
 obtain ⟨i0, hi0, hz0, hz1, hz2⟩ := info_parts info_string
 have hlen4 := bulkRt_len (plR ls)
 rw [plR_length] at hlen4
 have hlen5 : ls.length ≤ 262144 := by omega
 have HR := Lib.hid (fun (W : World) (h : Below w.heap.size w W) => hr.below h)
 have HM := Lib.hid (fun (W : World) (h : Below w.heap.size w W) => hm.below h)
 obtain ⟨l, hl⟩ : ∃ l, plR ls = l := ⟨_, rfl⟩
 rw [hl] at hk ⊢
 have HK := Lib.hid hk
 have HLL := Lib.hid (show l.length = ls.length by rw [← hl, plR_length])
 have HPL := Lib.hid (fun (k : Nat) (x : Rv) (h : ls[k]? = some x) => (show l[k]? = some x.2 ∧ Slim x.2 from ⟨by rw [← hl]; exact plR_get h, slim_mem hk (by rw [← hl]; exact List.mem_of_getElem? (plR_get h))⟩))
 have HB1 := Lib.hid (Below.refl w.heap.size w)
 clear hr hm hk hl
 go_enter Tryz.func27, Tryz.ntmps27
 go_wp2
 go_loopw [3, 8] (fun v i wr => ∃ k : Nat, k ≤ ls.length ∧ i = .int .i64 k ∧ Hid (wr.ownsRow w.heap.size 9 1 v (allR (l.take k) (fun _ : Rt => true)).length ((allR (l.take k) (fun _ : Rt => true)).map .string)) ∧ Hid (Below w.heap.size w wr)) (fun _ i _ => ls.length - (RowKit.intOf i).toNat)
 case atStart => exact ⟨0, by omega, rfl, Lib.hid (World.ownsRow_nil _ _ _ _), HB1⟩
 case round =>
  obtain ⟨k, hkl, rfl, HO, HB⟩ := hrel
  obtain ⟨SA, sc, rfl⟩ := own_slice HO.out
  have hacc := acc_len HK.out HLL.out (fun _ : Rt => true) k
  by_cases hlt : k < ls.length
  ·obtain ⟨x, hx⟩ := some_of_lt hlt
   obtain ⟨hpk, hslim⟩ := HPL.out k x hx
   have hmx := (HM.out wr HB.out x (List.mem_of_getElem? hx)).1
   obtain ⟨b, off, rfl, hbl, f0, f1⟩ := (HR.out wr HB.out).rv hx
   have hki : (k : Int) < (ls.length : Int) := by omega
   clear hx
   obtain ⟨⟨MA, mc⟩, ml, p⟩ := x
   dsimp only at f0 f1 hslim hpk hmx
   have hnum := hslim.num
   dsimp only at hnum
   have HPK := Lib.hid hpk
   have hb5 : Below wr.heap.size wr (wr.alloc (.cells #[.slice MA ml.length mc, .string p] 93)) := (Below.refl _ _).alloc (Nat.le_refl _) _
   have hN5 : Blk (wr.alloc (.cells #[.slice MA ml.length mc, .string p] 93)) wr.heap.size 93 #[.slice MA ml.length mc, .string p] := Blk.new wr _ _
   have HB5 := Lib.hid (HB.out.trans (hb5.mono HB.out.size))
   have r0 : (wr.alloc (.cells #[.slice MA ml.length mc, .string p] 93)).cell? ⟨wr.heap.size, 0, none⟩ = some (.slice MA ml.length mc) := hN5.cell 0
   have r1 : (wr.alloc (.cells #[.slice MA ml.length mc, .string p] 93)).cell? ⟨wr.heap.size, 1, none⟩ = some (.string p) := hN5.cell 1
   have rlt := hN5.lt
   have HMX := Lib.hid (hmx.below hb5)
   have HOX := Lib.hid (own_below HO.out hb5)
   have hws : w.heap.size ≤ wr.heap.size := HB.out.size
   clear hb5 hN5 hslim hpk hmx
   have HAC := Lib.hid (show allR (l.take (k + 1)) (fun _ : Rt => true) = allR (l.take k) (fun _ : Rt => true) ++ ml by rw [allR_take HPK.out, if_pos rfl])
   go_wp2_with (at_builtin; refine wpList_append_any _ rfl (.tmp 12) (.tmp 14) 33 rfl w.heap.size 9 i0 (.string ⟨#[]⟩) 1 16 Tryz.underlying33 hi0 hz0 hz1 hz2 rfl (by decide) (.slice SA (allR (l.take k) (fun _ : Rt => true)).length sc) (allR (l.take k) (fun _ : Rt => true)).length ((allR (l.take k) (fun _ : Rt => true)).map .string) rfl HOX.out _ MA ml.length mc (ml.map .string) rfl (reads_of_row HMX.out (by simp) (by decide)) (str_oneCell ml) (by unfold maxLen; omega) (by omega) (by simp; omega) ?_; intro v6 w6 hown6 hg6 halt6)
   have HB6 := Lib.hid (HB5.out.grown hg6 (by simp; omega) (own_lt HOX.out))
   have HO6 := Lib.hid (show w6.ownsRow w.heap.size 9 1 v6 (allR (l.take (k + 1)) (fun _ : Rt => true)).length ((allR (l.take (k + 1)) (fun _ : Rt => true)).map .string) from by rw [HAC.out, List.map_append, List.length_append]; exact hown6)
   clear hown6 hg6 halt6 HO HOX
   go_roundw
   case rel => exact ⟨k + 1, by omega, by go_num, HO6, HB6⟩
   case measure => simp [RowKit.intOf]; omega
  ·obtain rfl : k = ls.length := by omega
   have hta : l.take ls.length = l := by rw [← HLL.out, List.take_length]
   rw [hta] at HO hacc ⊢
   have HW := Lib.hid (rWith_any SA sc (allR l (fun _ : Rt => true)) wr (own_row HO.out) (by omega))
   clear hta HO
   go_wp2_with fail
   refine HW.out.mono ?_
   rintro e w4 ⟨B4, c4, rfl, ho4, hb4⟩
   have HE := Lib.hid (show GivesTx w (allowOf l (fun _ : Rt => true)) (.returned (.slice B4 (rising leS (withL (allR l (fun _ : Rt => true)))).length c4)) w4 from ⟨B4, c4, rfl, ho4.mono HB.out.size, HB.out.trans (hb4.mono HB.out.size)⟩)
   clear ho4 hb4
   go_wp2
   go_ret
   exact HE.out
end Go.Proofs.YtiohmnhbmmhnhaaGreatDoor
