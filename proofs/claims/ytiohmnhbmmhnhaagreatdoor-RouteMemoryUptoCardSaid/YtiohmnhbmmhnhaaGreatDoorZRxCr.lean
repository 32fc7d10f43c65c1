/-
 RxCr, without what this claim does not reach.
-/
import Derived.Test.YtiohmnhbmmhnhaaGreatDoorZRlJ
import Derived.Test.YtiohmnhbmmhnhaaGreatDoorZRxRp
import Derived.Test.YtiohmnhbmmhnhaaGreatDoorZRxLawChecks
namespace Go.Proofs.YtiohmnhbmmhnhaaGreatDoor
open Go.RowKit Go.Shelf Go.Lib
def cmpR (a b : ByteArray) : Int × Int := if (splitP a).2.2 = true ∧ (splitP b).2.2 = true then (ordP (splitP a).1 (splitP b).1, 0) else (0, 130)
theorem split_kinds {s : ByteArray} (h : (splitP s).2.2 = true) : (splitP s).1.length ≤ 4194304 ∧ ∀ p ∈ (splitP s).1, 0 ≤ p.1 ∧ p.1 ≤ 2 := by
 obtain ⟨h1, _, h3, _, h5, _⟩ := split_wf h
 have := totP_len (splitP s).1
 exact ⟨by omega, fun p hp => by have := (h1 p hp).1; omega⟩
set_option maxRecDepth 20000 in
set_option maxHeartbeats 4000000 in
theorem Cmp_any (a b : ByteArray) (w : World) (ha : a.size ≤ 4194304) (hb : b.size ≤ 4194304) :
  Calls Tryz.prog 20 #[.string a, .string b] w fun e w' => e = .returned (chkVal (cmpR a b)) ∧ Below w.heap.size w w' := by
 have HA := Lib.hid (fun W => split_any a W ha)
 have HB := Lib.hid (fun W => split_any b W hb)
 have hka := @split_kinds a
 have hkb := @split_kinds b
 unfold cmpR
 generalize splitP a = r at *
 generalize splitP b = t at *
 obtain ⟨l, p, g⟩ := r
 obtain ⟨m, q, h⟩ := t
 dsimp only at hka hkb
 cases g
 ·have HC := Lib.hid (show (if False ∧ h = true then (ordP l m, (0 : Int)) else (0, 130)) = (0, 130) from if_neg (fun x => x.1))
  clear hka hkb
  cases h
  all_goals
   clear HC
   go_enter Tryz.func20, Tryz.ntmps20
   go_wp2_with fail
   refine (HA.out _).mono ?_
   rintro e w1 ⟨A, c, rfl, ho, hb1⟩
   dsimp only at ho
   clear ho
   go_wp2_with fail
   refine (HB.out _).mono ?_
   rintro e w2 ⟨B, d, rfl, ho2, hb2⟩
   dsimp only at ho2
   have hb3 := hb1.trans (hb2.mono hb1.size)
   clear ho2 hb1 hb2
   go_wp2
   go_ret2
   exact ⟨rfl, hb3⟩
 ·cases h
  ·clear hka hkb
   go_enter Tryz.func20, Tryz.ntmps20
   go_wp2_with fail
   refine (HA.out _).mono ?_
   rintro e w1 ⟨A, c, rfl, ho, hb1⟩
   dsimp only at ho
   clear ho
   go_wp2_with fail
   refine (HB.out _).mono ?_
   rintro e w2 ⟨B, d, rfl, ho2, hb2⟩
   dsimp only at ho2
   have hb3 := hb1.trans (hb2.mono hb1.size)
   clear ho2 hb1 hb2
   go_wp2
   go_ret2
   exact ⟨rfl, hb3⟩
  ·obtain ⟨hl1, hl2⟩ := hka rfl
   obtain ⟨hm1, hm2⟩ := hkb rfl
   have HL := Lib.hid hl2
   have HM := Lib.hid hm2
   clear hka hkb hl2 hm2
   go_enter Tryz.func20, Tryz.ntmps20
   go_wp2_with fail
   refine (HA.out _).mono ?_
   rintro e w1 ⟨A, c, rfl, ho, hb1⟩
   dsimp only at ho ⊢
   go_wp2_with fail
   refine (HB.out _).mono ?_
   rintro e w2 ⟨B, d, rfl, ho2, hb2⟩
   dsimp only at ho2 ⊢
   have hb3 := hb1.trans (hb2.mono hb1.size)
   have HO := Lib.hid (order_any A c l B d m w2 (own_row (own_below ho hb2)) (own_row ho2) hl1 hm1 HL.out HM.out)
   clear ho ho2 hb1 hb2
   go_wp2_with fail
   refine HO.out.mono ?_
   rintro e w3 ⟨rfl, hd⟩
   have hb4 := hb3.trans (hd.below.mono hb3.size)
   clear hd hb3
   go_wp2
   go_ret2
   exact ⟨rfl, hb4⟩
end Go.Proofs.YtiohmnhbmmhnhaaGreatDoor
namespace Go.Proofs.YtiohmnhbmmhnhaaGreatDoor
open Go.RowKit Go.Shelf Go.Lib
theorem less_cmp : ∀ a b : List UInt8, Op.bytesLess a b = decide (Lib.compareBytes a b < 0)
 | [], [] => rfl
 | [], _ :: _ => rfl
 | _ :: _, [] => rfl
 | a :: x, b :: y => by
  show (decide (a < b) || (a == b && Op.bytesLess x y)) = decide ((if a < b then (-1 : Int) else if b < a then 1 else Lib.compareBytes x y) < 0)
  by_cases h : a < b
  ·rw [if_pos h, decide_eq_true h]; rfl
  ·rw [if_neg h, decide_eq_false h]
   by_cases h2 : b < a
   ·have hne : ¬ a = b := fun e => by subst e; exact h h2
    rw [if_pos h2]
    simp [hne]
   ·have he : a = b := by
     apply UInt8.toNat_inj.1
     have h3 : ¬ a.toNat < b.toNat := fun hh => h (UInt8.lt_iff_toNat_lt.2 hh)
     have h4 : ¬ b.toNat < a.toNat := fun hh => h2 (UInt8.lt_iff_toNat_lt.2 hh)
     omega
    subst he
    rw [if_neg h2, less_cmp x y]
    simp
theorem less_str (x y : ByteArray) : Op.bytesLess x.toList y.toList = decide (cmpB x y < 0) := by
 rw [less_cmp]
 unfold cmpB
 rw [ByteArray.toList_eq, ByteArray.toList_eq]
theorem ord_ends_lt {l m : List Pc} {k : Nat} (hk : k ≤ l.length) (hk2 : k ≤ m.length) (h : k = l.length ∨ k = m.length) : ordP (l.drop k) (m.drop k) = if l.length < m.length then -1 else if m.length < l.length then 1 else 0 := by
 rw [ord_ends hk hk2 h]
 by_cases h1 : l.length < m.length
 ·rw [if_pos h1, clamp_lt (by omega)]
 ·rw [if_neg h1]
  by_cases h2 : m.length < l.length
  ·rw [if_pos h2, clamp_gt (by omega)]
  ·rw [if_neg h2, clamp_eq (by omega)]
set_option maxRecDepth 20000 in
set_option maxHeartbeats 4000000 in
theorem rcompare_any (A : Option Addr) (c : Nat) (l : List Pc) (B : Option Addr) (d : Nat) (m : List Pc) (w : World) (hl : Row w A (flatP l)) (hm : Row w B (flatP m)) (hll : l.length ≤ 4194304) (_hml : m.length ≤ 4194304) :
  Calls Tryz.prog 88 #[.slice A l.length c, .slice B m.length d] w fun e w' => e = .returned (.int .i64 (ordP l m)) ∧ Drawn w w' := by
 obtain ⟨n, hn⟩ : ∃ n, n = min l.length m.length := ⟨_, rfl⟩
 have hn1 : n ≤ l.length := by omega
 have hn2 : n ≤ m.length := by omega
 have HN := Lib.hid (show n = l.length ∨ n = m.length by omega)
 have HL := Lib.hid hl
 have HM := Lib.hid hm
 clear hn hl hm
 go_enter Tryz.func88, Tryz.ntmps88
 go_wp2
 go_loopw [5] (fun i wr => ∃ k : Nat, k ≤ n ∧ i = .int .i64 k ∧ Hid (ordP (l.drop k) (m.drop k) = ordP l m) ∧ Hid (Drawn w wr)) (fun i _ => n - (RowKit.intOf i).toNat)
 case atStart => exact ⟨0, by omega, rfl, Lib.hid rfl, Lib.hid (Drawn.refl _)⟩
 case round =>
  obtain ⟨k, hk, rfl, HK, HD⟩ := hrel
  by_cases hlt : k < n
  rotate_left
  ·obtain rfl : k = n := by omega
   have he := HK.out.symm.trans (ord_ends_lt hn1 hn2 HN.out)
   clear HK
   by_cases h1 : l.length < m.length
   ·rw [if_pos h1] at he
    have HE := Lib.hid he
    have i1 : (l.length : Int) < (m.length : Int) := by omega
    have i0 : ¬ (k : Int) < (l.length : Int) := by have := HN.out; omega
    clear he h1
    go_wp2
    go_ret
    rw [HE.out]
    exact ⟨rfl, HD.out⟩
   ·rw [if_neg h1] at he
    have i1 : ¬ (l.length : Int) < (m.length : Int) := by omega
    have i0 : ¬ (k : Int) < (m.length : Int) := by have := HN.out; omega
    by_cases h2 : m.length < l.length
    ·rw [if_pos h2] at he
     have HE := Lib.hid he
     have i2 : (m.length : Int) < (l.length : Int) := by omega
     have i3 : (k : Int) < (l.length : Int) := by have := HN.out; omega
     clear he h1 h2
     go_wp2
     go_ret
     rw [HE.out]
     exact ⟨rfl, HD.out⟩
    ·rw [if_neg h2] at he
     have HE := Lib.hid he
     have i2 : ¬ (m.length : Int) < (l.length : Int) := by omega
     have i3 : ¬ (k : Int) < (l.length : Int) := by have := HN.out; omega
     clear he h1 h2
     go_wp2
     go_ret
     rw [HE.out]
     exact ⟨rfl, HD.out⟩
  obtain ⟨⟨x, y⟩, hx⟩ := some_of_lt (show k < l.length by omega)
  obtain ⟨⟨x', y'⟩, hx'⟩ := some_of_lt (show k < m.length by omega)
  obtain ⟨b, off, rfl, hb, f0, f1⟩ := (HL.out.below HD.out.below).pc hx
  obtain ⟨b', off', rfl, hb', g0, g1⟩ := (HM.out.below HD.out.below).pc hx'
  have ho := ord_here hx hx'
  rw [HK.out] at ho
  unfold hdP at ho
  dsimp only at ho
  have i1 : (k : Int) < (l.length : Int) := by omega
  have i2 : (k : Int) < (m.length : Int) := by omega
  clear hx hx' HK
  by_cases hxx : x = x'
  ·subst hxx
   rw [if_pos rfl] at ho
   have hne : (x != x) = false := by simp
   by_cases h0 : x = 0
   ·rw [if_pos h0] at ho
    have he : (x == 0) = true := by rw [h0]; rfl
    by_cases hyy : y = y'
    ·subst hyy
     rw [if_pos (cmpB_zero.2 rfl)] at ho
     have HO := Lib.hid ho.symm
     have hyn : (y.toList == y.toList) = true := by simp
     clear ho h0
     go_wp2_with fail
     go_quiet (fail)
     go_wp2_with fail
     go_quiet (fail)
     go_wp2
     go_roundw
     case rel => exact ⟨k + 1, by omega, by go_num, HO, Lib.hid (HD.out.drew _)⟩
     case measure => simp [RowKit.intOf]; omega
    ·have hz : ¬ cmpB y y' = 0 := fun e => hyy (cmpB_zero.1 e)
     rw [if_neg hz] at ho
     have hyn : (y.toList == y'.toList) = false := by
      cases e : (y.toList == y'.toList)
      ·rfl
      ·rw [eq_str] at e
       exact absurd (of_decide_eq_true e) hyy
     have hrg := hdP_range (0, y) (0, y')
     have hcc : hdP (0, y) (0, y') = cmpB y y' := rfl
     rw [hcc] at hrg
     by_cases hlt2 : cmpB y y' < 0
     ·have hls : Op.bytesLess y.toList y'.toList = true := by rw [less_str]; exact decide_eq_true hlt2
      have HO := Lib.hid (show ordP l m = -1 by omega)
      clear ho h0 hz hyy hrg hcc hlt2
      go_wp2_with fail
      go_quiet (fail)
      go_wp2_with fail
      go_quiet (fail)
      go_wp2_with fail
      go_quiet (fail)
      go_wp2
      go_ret
      rw [HO.out]
      exact ⟨rfl, ((HD.out.drew _).drew _).drew _⟩
     ·have hls : Op.bytesLess y.toList y'.toList = false := by rw [less_str]; exact decide_eq_false hlt2
      have HO := Lib.hid (show ordP l m = 1 by omega)
      clear ho h0 hz hyy hrg hcc hlt2
      go_wp2_with fail
      go_quiet (fail)
      go_wp2_with fail
      go_quiet (fail)
      go_wp2_with fail
      go_quiet (fail)
      go_wp2
      go_ret
      rw [HO.out]
      exact ⟨rfl, ((HD.out.drew _).drew _).drew _⟩
   ·have he : (x == 0) = false := by simpa using h0
    rw [if_neg h0, if_pos rfl] at ho
    have HO := Lib.hid ho.symm
    clear ho h0
    go_wp2_with fail
    go_quiet (fail)
    go_wp2_with fail
    go_quiet (fail)
    go_wp2
    go_roundw
    case rel => exact ⟨k + 1, by omega, by go_num, HO, Lib.hid (HD.out.drew _)⟩
    case measure => simp [RowKit.intOf]; omega
  ·have hne : (x != x') = true := by simpa using hxx
   rw [if_neg hxx] at ho
   by_cases hlt2 : x < x'
   ·rw [if_pos hlt2, if_neg (by decide)] at ho
    have HO := Lib.hid ho
    clear ho hxx
    go_wp2_with fail
    go_quiet (fail)
    go_wp2_with fail
    go_quiet (fail)
    go_wp2
    go_ret
    rw [HO.out]
    exact ⟨rfl, (HD.out.drew _).drew _⟩
   ·rw [if_neg hlt2, if_neg (by decide)] at ho
    have HO := Lib.hid ho
    clear ho hxx
    go_wp2_with fail
    go_quiet (fail)
    go_wp2_with fail
    go_quiet (fail)
    go_wp2
    go_ret
    rw [HO.out]
    exact ⟨rfl, (HD.out.drew _).drew _⟩
theorem chk_no {s : ByteArray} (h : (splitP s).2.2 = false) : (checkP s).2 = 130 := by
 unfold checkP
 generalize splitP s = r at *
 obtain ⟨l, p, g⟩ := r
 dsimp only at h
 subst h
 rfl
theorem chk_yes {s : ByteArray} (h : (splitP s).2.2 = true) : checkP s = (0, 0) := by
 unfold checkP
 generalize splitP s = r at *
 obtain ⟨l, p, g⟩ := r
 dsimp only at h
 subst h
 rfl
set_option maxRecDepth 20000 in
set_option maxHeartbeats 4000000 in
theorem rCompare_any (a b : ByteArray) (w : World) (ha : a.size ≤ 4194304) (hb : b.size ≤ 4194304) :
  Calls Tryz.prog 42 #[.string a, .string b] w fun e w' => e = .returned (chkVal (cmpR a b)) ∧ Below w.heap.size w w' := by
 have HA := Lib.hid (fun W => rCheck_any a W ha)
 have HB := Lib.hid (fun W => rCheck_any b W hb)
 have hna := @chk_no a
 have hnb := @chk_no b
 have hya := @chk_yes a
 have hyb := @chk_yes b
 unfold cmpR
 have hsa := @split_segs a
 have hsb := @split_segs b
 have hka := @split_kinds a
 have hkb := @split_kinds b
 unfold chkVal at HA HB
 generalize checkP a = ca at *
 generalize checkP b = cb at *
 obtain ⟨p, e⟩ := ca
 obtain ⟨q, f⟩ := cb
 dsimp only at HA HB hna hnb
 by_cases hg : (splitP a).2.2 = true ∧ (splitP b).2.2 = true
 ·have HCMP := Lib.hid (show (if (splitP a).2.2 = true ∧ (splitP b).2.2 = true then (ordP (splitP a).1 (splitP b).1, (0 : Int)) else (0, 130)) = (ordP (splitP a).1 (splitP b).1, 0) from if_pos hg)
  obtain ⟨g1, g2⟩ := hg
  have HSA := Lib.hid (show (splitP a).1 = rPieces a from hsa g1)
  have HSB := Lib.hid (show (splitP b).1 = rPieces b from hsb g2)
  have h1 := hya g1
  have h2 := hyb g2
  have hl1 := (hka g1).1
  have hl2 := (hkb g2).1
  rw [HSA.out] at hl1
  rw [HSB.out] at hl2
  obtain ⟨rfl, rfl⟩ : p = 0 ∧ e = 0 := ⟨congrArg Prod.fst h1, congrArg Prod.snd h1⟩
  obtain ⟨rfl, rfl⟩ : q = 0 ∧ f = 0 := ⟨congrArg Prod.fst h2, congrArg Prod.snd h2⟩
  have HP1 := Lib.hid (fun W => rPieces_any a W ha)
  have HP2 := Lib.hid (fun W => rPieces_any b W hb)
  clear hna hnb hya hyb hsa hsb hka hkb h1 h2 g1 g2
  rw [HCMP.out, HSA.out, HSB.out]
  clear HCMP HSA HSB
  generalize rPieces a = l at *
  generalize rPieces b = m at *
  go_enter Tryz.func42, Tryz.ntmps42
  go_wp2_with fail
  refine (HA.out _).mono ?_
  rintro e w1 ⟨rfl, hb1⟩
  go_wp2_with fail
  refine (HB.out _).mono ?_
  rintro e w2 ⟨rfl, hb2⟩
  have B2 := hb1.trans (hb2.mono hb1.size)
  clear hb1 hb2
  go_wp2_with fail
  refine (HP1.out _).mono ?_
  rintro e w3 ⟨A, c, rfl, ho3, hb3⟩
  have B3 := B2.trans (hb3.mono B2.size)
  clear hb3 B2
  go_wp2_with fail
  refine (HP2.out _).mono ?_
  rintro e w4 ⟨B, d, rfl, ho4, hb4⟩
  have B4 := B3.trans (hb4.mono B3.size)
  have HO := Lib.hid (rcompare_any A c l B d m w4 (own_row (own_below ho3 hb4)) (own_row ho4) hl1 hl2)
  clear hb4 B3 ho3 ho4
  go_wp2_with fail
  refine HO.out.mono ?_
  rintro e w5 ⟨rfl, hd⟩
  have B5 := B4.trans (hd.below.mono B4.size)
  clear hd B4
  go_wp2
  go_ret2
  exact ⟨rfl, B5⟩
 ·have HCMP := Lib.hid (show (if (splitP a).2.2 = true ∧ (splitP b).2.2 = true then (ordP (splitP a).1 (splitP b).1, (0 : Int)) else (0, 130)) = (0, 130) from if_neg hg)
  have hef : e = 130 ∨ (e = 0 ∧ f = 130) := by
   cases g1 : (splitP a).2.2
   ·exact .inl (hna g1)
   ·refine .inr ⟨congrArg Prod.snd (hya g1), hnb ?_⟩
    cases g2 : (splitP b).2.2
    ·rfl
    ·exact absurd ⟨g1, g2⟩ hg
  have hf : f = 130 ∨ f = 0 := by
   cases g2 : (splitP b).2.2
   ·exact .inl (hnb g2)
   ·exact .inr (congrArg Prod.snd (hyb g2))
  rw [HCMP.out]
  clear hna hnb hya hyb hsa hsb hka hkb hg HCMP
  rcases hef with rfl | ⟨rfl, rfl⟩
  ·rcases hf with rfl | rfl
   all_goals
    go_enter Tryz.func42, Tryz.ntmps42
    go_wp2_with fail
    refine (HA.out _).mono ?_
    rintro e w1 ⟨rfl, hb1⟩
    go_wp2_with fail
    refine (HB.out _).mono ?_
    rintro e w2 ⟨rfl, hb2⟩
    have B2 := hb1.trans (hb2.mono hb1.size)
    clear hb1 hb2
    go_wp2
    go_ret2
    exact ⟨rfl, B2⟩
  ·clear hf
   go_enter Tryz.func42, Tryz.ntmps42
   go_wp2_with fail
   refine (HA.out _).mono ?_
   rintro e w1 ⟨rfl, hb1⟩
   go_wp2_with fail
   refine (HB.out _).mono ?_
   rintro e w2 ⟨rfl, hb2⟩
   have B2 := hb1.trans (hb2.mono hb1.size)
   clear hb1 hb2
   go_wp2
   go_ret2
   exact ⟨rfl, B2⟩
end Go.Proofs.YtiohmnhbmmhnhaaGreatDoor
