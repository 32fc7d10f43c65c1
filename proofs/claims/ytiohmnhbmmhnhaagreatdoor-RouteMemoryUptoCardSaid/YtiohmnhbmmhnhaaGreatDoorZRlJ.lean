/-
 RlJ, without what this claim does not reach.
-/
import Derived.Test.YtiohmnhbmmhnhaaGreatDoorZRxR
import Derived.Test.YtiohmnhbmmhnhaaGreatDoorZRxV
import Derived.Deep.QuietTactic
import Derived.BigQuiet
import Derived.Test.YtiohmnhbmmhnhaaGreatDoorZRlB
import Derived.Deep.LoopGhost
import Derived.Lib.AppendZerosOnto
import Derived.Lib.Overlaps
import Derived.Lib.JoinLaws
import Derived.Laws.Externs
import Derived.Laws.CopyRow
import Derived.Laws.CopyOwn
import Derived.Laws.NewBlocks
import Derived.Deep.RegionLaw
namespace Go.Proofs.YtiohmnhbmmhnhaaGreatDoor
open Go.RowKit Go.Shelf Go.Lib
theorem Compare_any (a b : ByteArray) (w : World) : Calls Tryz.prog 99 #[.string a, .string b] w fun e w' => e = .returned (.int .i64 (cmpB a b)) ∧ w = w' :=
 (Tryz.strings_Compare a b w).mono fun _ _ ⟨he, hw⟩ => ⟨he, hw.symm⟩
theorem clamp_lt {x y : Int} (h : x < y) : max (-1) (min 1 (x - y)) = -1 := by omega
theorem clamp_gt {x y : Int} (h : y < x) : max (-1) (min 1 (x - y)) = 1 := by omega
theorem clamp_eq {x y : Int} (h : x = y) : max (-1) (min 1 (x - y)) = 0 := by omega
theorem ord_here {l m : List Pc} {k : Nat} {p q : Pc} (hp : l[k]? = some p) (hq : m[k]? = some q) : ordP (l.drop k) (m.drop k) = if hdP p q = 0 then ordP (l.drop (k + 1)) (m.drop (k + 1)) else hdP p q := by
 rw [drop_of_some hp, drop_of_some hq, ordP_cons]
theorem ord_ends {l m : List Pc} {k : Nat} (hk : k ≤ l.length) (hk2 : k ≤ m.length) (h : k = l.length ∨ k = m.length) : ordP (l.drop k) (m.drop k) = max (-1) (min 1 ((l.length : Int) - (m.length : Int))) := by
 by_cases h1 : k = l.length
 ·rw [h1, List.drop_length]
  by_cases h2 : k = m.length
  ·rw [← h1, h2, List.drop_length, clamp_eq (by omega)]
   rfl
  ·obtain ⟨x, hx⟩ := some_of_lt (show k < m.length by omega)
   rw [← h1, drop_of_some hx, clamp_lt (by omega)]
   rfl
 ·have h2 : k = m.length := by omega
  obtain ⟨x, hx⟩ := some_of_lt (show k < l.length by omega)
  rw [drop_of_some hx, h2, List.drop_length, clamp_gt (by omega)]
  rfl
def Drawn (w w' : World) : Prop := ∃ q, w' = w.drewN q
theorem Drawn.refl (w : World) : Drawn w w := ⟨0, rfl⟩
theorem Drawn.drew {w w' : World} (h : Drawn w w') (n : Nat) : Drawn w (w'.drewN n) := by
 obtain ⟨q, rfl⟩ := h
 exact ⟨q + n, by simp [World.drewN, Nat.add_assoc]⟩
theorem Drawn.below {w w' : World} (h : Drawn w w') : Below w.heap.size w w' := by
 obtain ⟨q, rfl⟩ := h
 exact below_drewN (Below.refl _ _) q
set_option maxRecDepth 20000 in
set_option maxHeartbeats 4000000 in
theorem order_any (A : Option Addr) (c : Nat) (l : List Pc) (B : Option Addr) (d : Nat) (m : List Pc) (w : World) (hl : Row w A (flatP l)) (hm : Row w B (flatP m)) (hll : l.length ≤ 4194304) (hml : m.length ≤ 4194304) (hkl : ∀ p ∈ l, 0 ≤ p.1 ∧ p.1 ≤ 2) (hkm : ∀ p ∈ m, 0 ≤ p.1 ∧ p.1 ≤ 2) :
  Calls Tryz.prog 52 #[.slice A l.length c, .slice B m.length d] w fun e w' => e = .returned (.int .i64 (ordP l m)) ∧ Drawn w w' := by
 obtain ⟨n, hn⟩ : ∃ n, n = min l.length m.length := ⟨_, rfl⟩
 have hmin : min (l.length : Int) (m.length : Int) = (n : Int) := by omega
 have hn1 : n ≤ l.length := by omega
 have hn2 : n ≤ m.length := by omega
 have HN := Lib.hid (show n = l.length ∨ n = m.length by omega)
 have HL := Lib.hid hl
 have HM := Lib.hid hm
 have HC := Lib.hid (fun a b w => Compare_any a b w)
 have HKL := Lib.hid hkl
 have HKM := Lib.hid hkm
 clear hn hl hm hkl hkm
 go_enter Tryz.func52, Tryz.ntmps52
 go_wp2
 go_loopw [11] (fun i wr => ∃ k : Nat, k ≤ n ∧ i = .int .i64 k ∧ Hid (ordP (l.drop k) (m.drop k) = ordP l m) ∧ Hid (Drawn w wr)) (fun i _ => n - (RowKit.intOf i).toNat)
 case atStart => exact ⟨0, by omega, rfl, Lib.hid rfl, Lib.hid (Drawn.refl _)⟩
 case round =>
  obtain ⟨k, hk, rfl, HK, HD⟩ := hrel
  by_cases hlt : k < n
  rotate_left
  ·obtain rfl : k = n := by omega
   have HE := Lib.hid (HK.out.symm.trans (ord_ends hn1 hn2 HN.out))
   go_wp2
   go_ret
   rw [HE.out]
   exact ⟨rfl, HD.out⟩
  obtain ⟨⟨x, y⟩, hx⟩ := some_of_lt (show k < l.length by omega)
  obtain ⟨⟨x', y'⟩, hx'⟩ := some_of_lt (show k < m.length by omega)
  obtain ⟨b, off, rfl, hb, f0, f1⟩ := (HL.out.below HD.out.below).pc hx
  obtain ⟨b', off', rfl, hb', g0, g1⟩ := (HM.out.below HD.out.below).pc hx'
  have ho := ord_here hx hx'
  rw [HK.out] at ho
  unfold hdP at ho
  dsimp only at ho
  have i1 : (k : Int) < (l.length : Int) := by omega
  have i2 : (k : Int) < (m.length : Int) := by omega
  obtain ⟨xl, xh⟩ := HKL.out _ (List.mem_of_getElem? hx)
  obtain ⟨xl', xh'⟩ := HKM.out _ (List.mem_of_getElem? hx')
  dsimp only at xl xh xl' xh'
  clear hx hx' HK
  by_cases hxx : x = x'
  ·subst hxx
   rw [if_pos rfl] at ho
   have hne : (x != x) = false := by simp
   by_cases h0 : x = 0
   ·rw [if_pos h0] at ho
    have he : (x == 0) = true := by rw [h0]; rfl
    by_cases hyy : y = y'
    ·subst hyy
     rw [if_pos (cmpB_zero.2 rfl)] at ho
     have HO := Lib.hid ho.symm
     have hyn : (y.toList == y.toList) = true := by simp
     clear ho h0 xl xh xl' xh'
     go_wp2_with fail
     go_quiet (fail)
     go_wp2_with fail
     go_quiet (fail)
     go_wp2
     go_roundw
     case rel => exact ⟨k + 1, by omega, by go_num, HO, Lib.hid (HD.out.drew _)⟩
     case measure => simp [RowKit.intOf]; omega
    ·have hz : ¬ cmpB y y' = 0 := fun e => hyy (cmpB_zero.1 e)
     rw [if_neg hz] at ho
     have HO := Lib.hid ho
     have hyn : (y.toList == y'.toList) = false := by
      cases e : (y.toList == y'.toList)
      ·rfl
      ·rw [eq_str] at e
       exact absurd (of_decide_eq_true e) hyy
     have HC2 := Lib.hid (fun w => HC.out y y' w)
     rw [← HO.out] at HC2
     clear ho h0 xl xh xl' xh' HC hz hyy
     go_wp2_with fail
     go_quiet (fail)
     go_wp2_with fail
     go_quiet (fail)
     go_wp2_with fail
     generalize hq : World.drewN (World.drewN wr _) _ = w4
     have HD2 : Hid (Drawn w w4) := Lib.hid (by rw [← hq]; exact (HD.out.drew _).drew _)
     have f2 : w4.cell? ⟨b, off + k * 2 + 1, none⟩ = some (.string y) := by rw [← hq]; exact f1
     have g2 : w4.cell? ⟨b', off' + k * 2 + 1, none⟩ = some (.string y') := by rw [← hq]; exact g1
     clear hq
     go_quiet (first | (go_at_call 99; exact Calls.quiet_of_same ((HC2.out _).mono fun e w' h => ⟨h.1, h.2.symm⟩)))
     go_wp2
     go_ret
     exact ⟨rfl, HD2.out.drew _⟩
   ·have he : (x == 0) = false := by simpa using h0
    rw [if_neg h0, if_pos rfl] at ho
    have HO := Lib.hid ho.symm
    clear ho h0 xl xh xl' xh'
    go_wp2_with fail
    go_quiet (fail)
    go_wp2_with fail
    go_quiet (fail)
    go_wp2
    go_roundw
    case rel => exact ⟨k + 1, by omega, by go_num, HO, Lib.hid (HD.out.drew _)⟩
    case measure => simp [RowKit.intOf]; omega
  ·have hne : (x != x') = true := by simpa using hxx
   have hw : IntKind.i64.wrap (x - x') = x - x' := IntWalk.i64_in _ (by omega)
   have HO := Lib.hid (show max (-1) (min 1 (x - x')) = ordP l m by
    rw [ho, if_neg hxx]
    by_cases h : x < x'
    ·rw [if_pos h, if_neg (by decide), clamp_lt h]
    ·rw [if_neg h, if_neg (by decide), clamp_gt (by omega)])
   clear ho hxx xl xh xl' xh'
   go_wp2_with fail
   go_quiet (fail)
   go_wp2_with fail
   go_quiet (fail)
   go_wp2
   go_ret
   exact ⟨ret_int HO.out, (HD.out.drew _).drew _⟩
abbrev En := ByteArray × (Option Addr × Nat) × List Pc × (Option Addr × Nat × Nat)
def enV (x : En) : List Value := [.string x.1, .slice x.2.1.1 x.2.2.1.length x.2.1.2, .slice x.2.2.2.1 x.2.2.2.2.1 x.2.2.2.2.2]
def flatE (l : List En) : List Value := l.flatMap enV
theorem flatE_length (l : List En) : (flatE l).length = l.length * 3 := by
 induction l with
 | nil => rfl
 | cons p l ih =>
  show (flatE l).length + 3 = _
  rw [ih, List.length_cons]
  omega
theorem flatE_append (l m : List En) : flatE (l ++ m) = flatE l ++ flatE m := by simp [flatE]
theorem flatE_get {l : List En} {k : Nat} {x : En} (h : l[k]? = some x) : (flatE l)[k * 3]? = some (.string x.1) ∧ (flatE l)[k * 3 + 1]? = some (.slice x.2.1.1 x.2.2.1.length x.2.1.2) ∧ (flatE l)[k * 3 + 2]? = some (.slice x.2.2.2.1 x.2.2.2.2.1 x.2.2.2.2.2) := by
 induction l generalizing k with
 | nil => simp at h
 | cons p l ih =>
  cases k with
  | zero =>
   simp at h
   subst h
   exact ⟨rfl, rfl, rfl⟩
  | succ k =>
   obtain ⟨h0, h1, h2⟩ := ih (k := k) (by simpa using h)
   have e : flatE (p :: l) = .string p.1 :: .slice p.2.1.1 p.2.2.1.length p.2.1.2 :: .slice p.2.2.2.1 p.2.2.2.2.1 p.2.2.2.2.2 :: flatE l := rfl
   rw [e, show (k + 1) * 3 = k * 3 + 1 + 1 + 1 by omega]
   simp only [List.getElem?_cons_succ]
   exact ⟨h0, h1, h2⟩
theorem flatE_oneCell (l : List En) : ∀ u ∈ flatE l, u.oneCell' = true := by
 intro u hu
 simp only [flatE, List.mem_flatMap] at hu
 obtain ⟨p, _, hp⟩ := hu
 simp [enV] at hp
 rcases hp with rfl | rfl | rfl <;> rfl
theorem flatE_take (l : List En) (k : Nat) : (flatE l).take (k * 3) = flatE (l.take k) := by
 induction l generalizing k with
 | nil => simp [flatE]
 | cons p l ih =>
  cases k with
  | zero => simp [flatE]
  | succ k =>
   have e : ∀ l, flatE (p :: l) = .string p.1 :: .slice p.2.1.1 p.2.2.1.length p.2.1.2 :: .slice p.2.2.2.1 p.2.2.2.2.1 p.2.2.2.2.2 :: flatE l := fun _ => rfl
   rw [List.take_succ_cons, e, e, show (k + 1) * 3 = k * 3 + 1 + 1 + 1 by omega, List.take_succ_cons, List.take_succ_cons, List.take_succ_cons, ih]
theorem flatE_drop (l : List En) (k : Nat) : (flatE l).drop (k * 3) = flatE (l.drop k) := by
 induction l generalizing k with
 | nil => simp [flatE]
 | cons p l ih =>
  cases k with
  | zero => simp
  | succ k =>
   have e : flatE (p :: l) = .string p.1 :: .slice p.2.1.1 p.2.2.1.length p.2.1.2 :: .slice p.2.2.2.1 p.2.2.2.2.1 p.2.2.2.2.2 :: flatE l := rfl
   rw [List.drop_succ_cons, e, show (k + 1) * 3 = k * 3 + 1 + 1 + 1 by omega, List.drop_succ_cons, List.drop_succ_cons, List.drop_succ_cons, ih]
theorem Row.en {w : World} {A : Option Addr} {l : List En} {k : Nat} {x : En} (h : Row w A (flatE l)) (hk : l[k]? = some x) :
  ∃ b off, A = some ⟨b, off, none⟩ ∧ b < w.heap.size ∧ w.cell? ⟨b, off + k * 3, none⟩ = some (.string x.1) ∧ w.cell? ⟨b, off + k * 3 + 1, none⟩ = some (.slice x.2.1.1 x.2.2.1.length x.2.1.2) ∧ w.cell? ⟨b, off + k * 3 + 2, none⟩ = some (.slice x.2.2.2.1 x.2.2.2.2.1 x.2.2.2.2.2) := by
 obtain ⟨h0, h1, h2⟩ := flatE_get hk
 obtain ⟨b, off, e, hb, hc⟩ := h.at_ h0
 exact ⟨b, off, e, hb, hc _ _ h0, by rw [Nat.add_assoc]; exact hc _ _ h1, by rw [Nat.add_assoc]; exact hc _ _ h2⟩
theorem info_entry : (Tryz.prog.info? 150).map (fun i => (i.zero, i.size, i.bytes)) = some (some (.agg #[.string ⟨#[]⟩, .slice none 0 0, .slice none 0 0]), 3, 64) := by kernel_rfl
def EOne (S : Nat → Prop) (w : World) (x : En) : Prop := RowF S w x.2.1.1 (flatP x.2.2.1)
theorem EOne.hold {S : Nat → Prop} {w w' : World} {x : En} (h : EOne S w x) (hh : Hold S w w') : EOne S w' x := RowF.hold h hh
theorem EOne.mono {S S' : Nat → Prop} {w : World} {x : En} (h : EOne S w x) (hl : ∀ b, S b → b < w.heap.size → S' b) : EOne S' w x := RowF.mono h hl
theorem ownE_empty (w : World) (E : TypeId) (sz : Nat) : (w.alloc (.cells #[] E)).ownsRow w.heap.size E sz (.slice (some ⟨w.heap.size, 0, none⟩) 0 0) 0 [] :=
 ⟨(Nat.zero_mul sz).symm, .inr ⟨w.heap.size, 0, #[], rfl, Nat.le_refl _, by unfold World.alloc; simp, Nat.le_refl _, Nat.zero_le _, (Nat.zero_mul sz).symm, by simp⟩⟩
set_option maxRecDepth 20000 in
set_option maxHeartbeats 1000000 in
theorem CloneE_any (A : Option Addr) (c : Nat) (l : List En) (w : World) (hr : Row w A (flatE l)) (hl : l.length ≤ 4194304) (hn : (A = none ∧ c = 0) ∨ ∃ b off, A = some ⟨b, off, none⟩) :
  Calls Tryz.prog 80 #[.slice A l.length c] w fun e w' => ∃ v, e = .returned v ∧ w'.ownsRow w.heap.size 150 3 v l.length (flatE l) ∧ Below w.heap.size w w' := by
 obtain ⟨i0, hi0, hz0, hz1, hz2⟩ := info_parts info_entry
 have he : ∀ (b off n c : Nat) (w : World), (binOp .eql 140 (.slice (some ⟨b, off, none⟩) n c) (.slice none 0 0)).run Tryz.prog w = .ok (.bool false) w := fun _ _ _ _ _ => rfl
 have he0 : ∀ (w : World), (binOp .eql 140 (.slice none 0 0) (.slice none 0 0)).run Tryz.prog w = .ok (.bool true) w := fun _ => rfl
 rcases hn with ⟨rfl, rfl⟩ | ⟨b, off, rfl⟩
 ·have h0 : l.length = 0 := by
   by_cases h : l.length = 0
   ·exact h
   ·obtain ⟨b, off, e, _⟩ := hr (by rw [flatE_length]; omega)
    cases e
  have h1 : l = [] := List.eq_nil_of_length_eq_zero h0
  subst h1
  clear h0 hl hr
  rw [List.length_nil]
  go_enter Tryz.func80, Tryz.ntmps80
  go_wp2
  go_ret
  exact ⟨_, rfl, World.ownsRow_nil _ _ _ _, Below.refl _ _⟩
 ·have HR := Lib.hid hr
  clear hr
  go_enter Tryz.func80, Tryz.ntmps80
  have hown := ownE_empty w 150 3
  have hrd := reads_of_row (HR.out.alloc (.cells #[] 150)) (flatE_length l) (by decide)
  go_wp2_with (at_builtin; refine wpList_append_any _ rfl (.tmp 5) (.tmp 6) 140 rfl w.heap.size 150 i0 (.agg #[.string ⟨#[]⟩, .slice none 0 0, .slice none 0 0]) 3 64 Tryz.underlying140 hi0 hz0 hz1 hz2 rfl (by decide) _ _ _ rfl hown _ (some ⟨b, off, none⟩) l.length c (flatE l) rfl hrd (flatE_oneCell l) ?c2 ?c3 ?c4 ?c5)
  case c2 => unfold maxLen; omega
  case c3 => omega
  case c4 => simp
  case c5 =>
   intro v' w2 hown2 hg2 alt2
   have hb2 := ((Below.refl w.heap.size w).alloc (Nat.le_refl _) (.cells #[] 150)).grown hg2 (by simp) (own_lt hown)
   go_wp2
   go_ret
   exact ⟨_, rfl, hown2, hb2⟩
set_option maxRecDepth 20000 in
set_option maxHeartbeats 1000000 in
theorem cmpE_any (x : En) (B : Option Addr) (d : Nat) (m : List Pc) (w : World) (hx : Row w x.2.1.1 (flatP x.2.2.1)) (hm : Row w B (flatP m)) (hll : x.2.2.1.length ≤ 4194304) (hml : m.length ≤ 4194304) (hkl : ∀ p ∈ x.2.2.1, 0 ≤ p.1 ∧ p.1 ≤ 2) (hkm : ∀ p ∈ m, 0 ≤ p.1 ∧ p.1 ≤ 2) :
  Calls Tryz.prog 83 #[.agg (enV x).toArray, .slice B m.length d] w fun e w' => e = .returned (.int .i64 (ordP x.2.2.1 m)) ∧ Below w.heap.size w w' := by
 obtain ⟨p, ⟨A, c⟩, l, v⟩ := x
 dsimp only at hx hll hkl
 have HO := Lib.hid (fun (W : World) (h : Below w.heap.size w W) => order_any A c l B d m W (hx.below h) (hm.below h) hll hml hkl hkm)
 clear hx hm hkl hkm
 show Calls _ _ #[.agg #[.string p, .slice A l.length c, .slice v.1 v.2.1 v.2.2], .slice B m.length d] _ _
 dsimp only
 have hb := (Below.refl w.heap.size w).alloc (Nat.le_refl _) (.cells #[.string p, .slice A l.length c, .slice v.1 v.2.1 v.2.2] 150)
 go_enter Tryz.func83, Tryz.ntmps83
 go_wp2_with fail
 refine (HO.out _ hb).mono ?_
 rintro e w' ⟨rfl, hd⟩
 have hb2 := hb.trans (hd.below.mono hb.size)
 go_wp2
 go_ret
 exact ⟨rfl, hb2⟩
def cntE (es : List En) (m : List Pc) : Nat := es.countP fun x => decide (ordP x.2.2.1 m < 0)
theorem countE_boundary (p : En → Bool) : ∀ (l : List En) (i : Nat), i ≤ l.length → (∀ t x, t < i → l[t]? = some x → p x = true) → (∀ t x, i ≤ t → l[t]? = some x → p x = false) → l.countP p = i
 | [], i, hi, _, _ => by simp at hi; simp [hi]
 | a :: r, 0, _, _, h2 => by
  rw [List.countP_eq_zero]
  intro x hx
  obtain ⟨t, ht, rfl⟩ := List.getElem_of_mem hx
  have := h2 t _ (Nat.zero_le _) (List.getElem?_eq_getElem ht)
  rw [this]
  simp
 | a :: r, i + 1, hi, h1, h2 => by
  have ha : p a = true := h1 0 a (Nat.succ_pos _) rfl
  rw [List.countP_cons_of_pos ha, countE_boundary p r i (by simpa using hi) (fun t x ht hx => h1 (t + 1) x (by omega) (by simpa using hx)) (fun t x ht hx => h2 (t + 1) x (by omega) (by simpa using hx))]
def SortE (es : List En) : Prop := es.Pairwise fun x y => ordP x.2.2.1 y.2.2.1 < 0
theorem SortE.mono {es : List En} (h : SortE es) {a b : Nat} {x y : En} {m : List Pc} (hab : a ≤ b) (hx : es[a]? = some x) (hy : es[b]? = some y) (hlt : ordP y.2.2.1 m < 0) : ordP x.2.2.1 m < 0 := by
 by_cases e : a = b
 ·subst e
  rw [hx] at hy
  injection hy with hy
  rw [hy]
  exact hlt
 ·obtain ⟨ha, rfl⟩ := List.getElem?_eq_some_iff.1 hx
  obtain ⟨hb, rfl⟩ := List.getElem?_eq_some_iff.1 hy
  have h1 := List.pairwise_iff_getElem.1 h a b ha hb (by omega)
  have h2 := ordP_three _ _ m (Int.le_of_lt h1) (Int.le_of_lt hlt)
  have h3 : ordP es[a].2.2.1 m ≠ 0 := fun e => by have := (h2.2 e).1; omega
  omega
set_option maxRecDepth 20000 in
set_option maxHeartbeats 4000000 in
theorem SearchE_any (A : Option Addr) (c : Nat) (es : List En) (B : Option Addr) (d : Nat) (m : List Pc) (w : World) (hr : Row w A (flatE es)) (hes : ∀ x ∈ es, Row w x.2.1.1 (flatP x.2.2.1) ∧ x.2.2.1.length ≤ 4194304 ∧ ∀ p ∈ x.2.2.1, 0 ≤ p.1 ∧ p.1 ≤ 2) (hm : Row w B (flatP m)) (hl : es.length ≤ 4194304) (hml : m.length ≤ 4194304) (hkm : ∀ p ∈ m, 0 ≤ p.1 ∧ p.1 ≤ 2) (hs : SortE es) :
  Calls Tryz.prog 82 #[.slice A es.length c, .slice B m.length d, .func (.func 83) #[] #[]] w fun e w' => (∃ b : Bool, e = .returned (.tuple #[.int .i64 (cntE es m : Nat), .bool b])) ∧ Below w.heap.size w w' := by
 have hcf : ∀ args w, (callFunc 83 args).run Tryz.prog w = .ok (.enter 83 args) w := fun args w => Tryz.call83 args w
 have HF := Lib.hid (fun (W : World) (h : Below w.heap.size w W) (x : En) (hx : x ∈ es) => cmpE_any x B d m W ((hes x hx).1.below h) (hm.below h) (hes x hx).2.1 hml (hes x hx).2.2 hkm)
 have HR := Lib.hid hr
 have HS := Lib.hid hs
 clear hr hes hm hkm hs
 go_enter Tryz.func82, Tryz.ntmps82
 go_wp2
 go_loopw [9, 10] (fun s9 s10 wr => ∃ lo hi : Nat, s9 = .int .i64 lo ∧ s10 = .int .i64 hi ∧ lo ≤ hi ∧ hi ≤ es.length ∧ Below w.heap.size w wr ∧ Hid (∀ t x, t < lo → es[t]? = some x → ordP x.2.2.1 m < 0) ∧ Hid (∀ t x, hi ≤ t → es[t]? = some x → 0 ≤ ordP x.2.2.1 m)) (fun s9 s10 _ => (RowKit.intOf s10).toNat - (RowKit.intOf s9).toNat)
 case atStart => exact ⟨0, es.length, rfl, rfl, Nat.zero_le _, Nat.le_refl _, Below.refl _ _, Lib.hid (fun t x ht => absurd ht (Nat.not_lt_zero _)), Lib.hid (fun t x ht hx => by have := (List.getElem?_eq_some_iff.1 hx).1; omega)⟩
 case round =>
  obtain ⟨lo, hi, rfl, rfl, hlh, hin, hbw, HLo, HHi⟩ := hrel
  by_cases hlt : lo < hi
  ·obtain ⟨h, hh⟩ : ∃ h, h = (lo + hi) / 2 := ⟨_, rfl⟩
   have hhi : ((lo : Int) + (hi : Int)) / 2 = (h : Int) := by omega
   have hh1 : lo ≤ h := by omega
   have hh2 : h < hi := by omega
   obtain ⟨x, hx⟩ := some_of_lt (show h < es.length by omega)
   have hmem := List.mem_of_getElem? hx
   obtain ⟨b, off, rfl, hb, c0, c1, c2⟩ := Row.en (HR.out.below hbw) hx
   have HC := Lib.hid (HF.out wr hbw x hmem)
   have hcc : (b = b) := rfl
   have HX := Lib.hid hx
   clear hx hmem hh hcc
   obtain ⟨p, ⟨XA, xc⟩, xl, xv⟩ := x
   dsimp only at c0 c1 c2 HC
   go_wp2_with fail
   refine HC.out.mono ?_
   rintro e w1 ⟨rfl, hb1⟩
   have hbw2 := hbw.trans (hb1.mono hbw.size)
   clear HC c0 c1 c2 hb1
   by_cases hneg : ordP xl m < 0
   ·have HLo2 := Lib.hid (fun (t : Nat) (y : En) (ht : t < h + 1) (hy : es[t]? = some y) => HS.out.mono (m := m) (show t ≤ h by omega) hy HX.out hneg)
    go_wp2
    go_roundw
    case rel => exact ⟨h + 1, hi, by go_num, rfl, by omega, hin, hbw2, HLo2, HHi⟩
    case measure => simp [RowKit.intOf]; omega
   ·have hnn : 0 ≤ ordP xl m := by omega
    have HHi2 := Lib.hid (fun (t : Nat) (y : En) (ht : h ≤ t) (hy : es[t]? = some y) => (show 0 ≤ ordP y.2.2.1 m from Int.not_lt.1 fun hc => hneg (HS.out.mono (m := m) ht HX.out hy hc)))
    go_wp2
    go_roundw
    case rel => exact ⟨lo, h, rfl, rfl, by omega, by omega, hbw2, HLo, HHi2⟩
    case measure => simp [RowKit.intOf]; omega
  ·obtain rfl : hi = lo := by omega
   have HC := Lib.hid (show cntE es m = hi from countE_boundary _ es hi hin (fun t x ht hx => decide_eq_true (HLo.out t x ht hx)) (fun t x ht hx => decide_eq_false (by have := HHi.out t x ht hx; omega)))
   by_cases hlast : hi < es.length
   ·obtain ⟨x, hx⟩ := some_of_lt hlast
    have hmem := List.mem_of_getElem? hx
    obtain ⟨b, off, rfl, hb, c0, c1, c2⟩ := Row.en (HR.out.below hbw) hx
    have HC2 := Lib.hid (HF.out wr hbw x hmem)
    clear hx hmem
    obtain ⟨p, ⟨XA, xc⟩, xl, xv⟩ := x
    dsimp only at c0 c1 c2 HC2
    go_wp2_with fail
    refine HC2.out.mono ?_
    rintro e w1 ⟨rfl, hb1⟩
    have hbw2 := hbw.trans (hb1.mono hbw.size)
    clear HC2 c0 c1 c2 hb1
    go_wp2
    go_ret2
    exact ⟨⟨_, by rw [HC.out]; rfl⟩, hbw2⟩
   ·go_wp2
    go_ret2
    exact ⟨⟨_, by rw [HC.out]; rfl⟩, hbw⟩
theorem run_copy_rowN {P : Program} (w : World) (dT sT ty elem : TypeId) (g o dLen dCap : Nat) (a : Addr) (sLen sCap : Nat) (cur : Array Value) (t : TypeId) (cs : List Value) (sz n : Nat)
  (hu : P.underlying dT = some (.slice elem)) (hs : (P.info? elem).map (·.size) = some sz)
  (hg : w.heap[g]? = some (.cells cur t (0, 0))) (hn : Nat.min sLen dLen = n) (hc : cs.length = n * sz)
  (hsrc : ∀ j v, cs[j]? = some v → w.cell? (a.add j) = some v) (hfit : o + cs.length ≤ cur.size) (h1 : ∀ v ∈ cs, v.oneCell' = true) :
  (Builtin.copy_ #[dT, sT] ty #[.slice (some ⟨g, o, none⟩) dLen dCap, .slice (some a) sLen sCap]).run P w =
   .ok (goInt n) (w.setRow g (cur.toList.take o ++ cs ++ cur.toList.drop (o + cs.length)).toArray) := by
 have hl := run_loadCells_list (P := P) w a cs hsrc
 rw [hc] at hl
 have hst := run_storeCells_at P g o t cs 0 cur w hg (by simpa using hfit) h1
 cases hq : P.info? elem with
 | none => simp [hq] at hs
 | some i =>
  have hi : i.size = sz := by simpa [hq] using hs
  simp [Builtin.copy_, run_underlying hu, Builtin.lenOf, Builtin.firstCells, sizeOf, typeInfo, hq, hi, hn, hl, hst]
theorem step_copy_runJ {P : Program} {ops : Array Oper} {o : Oper} {a : Act} {w : World} {K : Act → World → Prop} {Q : Exit → Act → World → Prop} {E : Prop}
  (hg : o.guard = none) (d x : Operand) (dT sT : TypeId) (hop : o.op = Op.call { callee := Callee.builtin Builtin.copy, args := #[d, x], argTypes := #[dT, sT] })
  (v u : Value) (hd : a.eval d = v) (hx : a.eval x = u) {v' : Value} {w' : World} (hr : (Builtin.copy_ #[dT, sT] o.type #[v, u]).run P w = .ok v' w') (hK : K (a.put o.dst v') w') :
  if Region.wanted o (yielded ops a.tmps) = true then Oper.wp P o a w K Q else E := by
 have hw : Region.wanted o (yielded ops a.tmps) = true := by simp [Region.wanted, hg]
 rw [if_pos hw]
 unfold Oper.wp
 simp [execOp, hop, resolve, invoke, builtin, hd, hx, hr, Result.andThen]
 exact hK
theorem enV_length (x : En) : (enV x).length = 3 := rfl
theorem enV_one (x : En) : ∀ u ∈ enV x, u.oneCell' = true := by
 intro u hu
 simp [enV] at hu
 rcases hu with rfl | rfl | rfl <;> rfl
theorem blk_cells {w : World} {b : Nat} {cs : List Value} {t : TypeId} {fz : Nat × Nat} (h : w.heap[b]? = some (.cells cs.toArray t fz)) : ∀ j v, cs[j]? = some v → w.cell? ⟨b, j, none⟩ = some v := fun j v hv => by
 simp [World.cell?, h, hv]
theorem blk_lt {w : World} {b : Nat} {o : Obj} (h : w.heap[b]? = some o) : b < w.heap.size := (Array.getElem?_eq_some_iff.1 h).1
def GivesIns (base : Nat) (w : World) (es : List En) (x : En) (i : Nat) (e : Ending) (w' : World) : Prop :=
 ∃ v', e = .returned v' ∧ w'.ownsRow base 150 3 v' (es.length + 1) (flatE (es.take i ++ x :: es.drop i)) ∧ Below base w w'
set_option maxRecDepth 20000 in
set_option maxHeartbeats 1000000 in
theorem InsertE_end (v : Value) (es : List En) (x : En) (vb base : Nat) (w : World) (hown : w.ownsRow base 150 3 v es.length (flatE es)) (hv : w.heap[vb]? = some (.cells (enV x).toArray 150 (0, 0))) (hl : es.length ≤ 4194304) (hbase : base ≤ w.heap.size) :
  Calls Tryz.prog 84 #[v, .int .i64 (es.length : Nat), .slice (some ⟨vb, 0, none⟩) 1 1] w (GivesIns base w es x es.length) := by
 obtain ⟨i0, hi0, hz0, hz1, hz2⟩ := info_parts info_entry
 obtain ⟨A, c, rfl⟩ := own_slice hown
 obtain ⟨hnc, hcm⟩ := own_caps hown
 have hci : (es.length : Int) ≤ (c : Int) := by omega
 have hrv : Row w (some ⟨vb, 0, none⟩) (enV x) := fun _ => ⟨vb, 0, rfl, blk_lt hv, fun j u hu => by rw [Nat.zero_add]; exact blk_cells hv j u hu⟩
 have hrd := reads_of_row (n := 1) (size := 3) hrv (enV_length x) (by decide)
 have hfl : flatE (es.take es.length ++ x :: es.drop es.length) = flatE es ++ enV x := by
  rw [List.take_length, List.drop_length, flatE_append]
  simp [flatE]
 unfold GivesIns
 rw [hfl]
 clear hfl hv hrv
 by_cases hce : c = es.length
 all_goals
  go_enter Tryz.func84, Tryz.ntmps84
  go_wp2_with (at_builtin; refine wpList_append_any _ rfl (.tmp 23) (.tmp 24) 140 rfl base 150 i0 (.agg #[.string ⟨#[]⟩, .slice none 0 0, .slice none 0 0]) 3 64 Tryz.underlying140 hi0 hz0 hz1 hz2 rfl (by decide) _ _ _ rfl (by first | exact hown | (rw [← hce]; rw [← hce] at hown; exact hown)) _ (some ⟨vb, 0, none⟩) 1 1 (enV x) rfl hrd (enV_one x) (by unfold maxLen; omega) (by omega) hbase ?_; intro v' w2 hown2 hg2 alt2)
  have hb2 := (Below.refl base w).grown hg2 hbase (fun q hq => by simp only [Value.ownBlock] at hq; exact own_lt hown q hq)
  clear hg2 alt2
  go_wp2
  go_ret
  exact ⟨_, rfl, hown2, hb2⟩
theorem moved_row {α : Type} {L F X D : List α} {a N : Nat} (hF : L.take N = F) (hN : F.length = N) (ha : a ≤ N) (hX : X.length = 3) (hD : D = F.drop a) (hL : N + 3 ≤ L.length) :
  ∀ C1 C2, C1 = L.take (a + 3) ++ D ++ L.drop (a + 3 + D.length) → C2 = C1.take a ++ X ++ C1.drop (a + X.length) → C2.length = L.length ∧ C2.take (N + 3) = F.take a ++ X ++ F.drop a := by
 intro C1 C2 h1 h2
 have hDl : D.length = N - a := by rw [hD, List.length_drop, hN]
 have t1 : (L.take (a + 3)).length = a + 3 := by rw [List.length_take]; omega
 have e1 : C1.take a = F.take a := by
  rw [h1, List.append_assoc, List.take_append_of_le_length (by omega), List.take_take, Nat.min_eq_left (by omega), ← hF, List.take_take, Nat.min_eq_left ha]
 have e2 : C1.drop (a + X.length) = D ++ L.drop (a + 3 + D.length) := by
  rw [h1, hX, List.append_assoc]
  exact List.drop_left' t1
 have hFa : (F.take a).length = a := by rw [List.length_take]; omega
 rw [h2, e1, e2]
 constructor
 ·simp only [List.length_append, hFa, hX, hDl, List.length_drop]
  omega
 ·have e3 : F.take a ++ X ++ (D ++ L.drop (a + 3 + D.length)) = (F.take a ++ X ++ D) ++ L.drop (a + 3 + D.length) := by simp
  have e4 : (F.take a ++ X ++ D).length = N + 3 := by simp only [List.length_append, hFa, hX, hDl]; omega
  rw [e3, ← e4, List.take_left, hD]
theorem flatE_ins (es : List En) (x : En) (i : Nat) : flatE (es.take i ++ x :: es.drop i) = (flatE es).take (i * 3) ++ enV x ++ (flatE es).drop (i * 3) := by
 rw [flatE_take, flatE_drop, flatE_append]
 simp [flatE]
set_option maxRecDepth 20000 in
set_option maxHeartbeats 4000000 in
theorem InsertE_room (g n c i : Nat) (es : List En) (x : En) (vb base : Nat) (cur : Array Value) (w : World) (hn : es.length = n) (hg : w.heap[g]? = some (.cells cur 150 (0, 0))) (hbg : base ≤ g) (hcur : cur.size = c * 3) (hck : cur.toList.take (n * 3) = flatE es) (hcm : c ≤ maxLen) (hv : w.heap[vb]? = some (.cells (enV x).toArray 150 (0, 0))) (hvb : vb ≠ g) (hi : i < n) (hroom : n + 1 ≤ c) (hl : n ≤ 4194304) :
  Calls Tryz.prog 84 #[.slice (some ⟨g, 0, none⟩) n c, .int .i64 (i : Nat), .slice (some ⟨vb, 0, none⟩) 1 1] w (GivesIns base w es x i) := by
 have hsz : (Tryz.prog.info? 150).map (·.size) = some 3 := by kernel_rfl
 have hsa : w.shape? vb = some (150, 3) := by simp [World.shape?, hv, enV]
 have hsb : w.shape? g = some (150, c * 3) := by simp [World.shape?, hg, hcur]
 have hfa : w.frozen? ⟨vb, 0, none⟩ = false := by simp [World.frozen?, hv]
 have hfe : w.frozen? ⟨vb, 3, none⟩ = false := by simp [World.frozen?, hv]
 have hov : ∀ o lb cb, (callFunc 117 #[.slice (some ⟨vb, 0, none⟩) 1 1, .slice (some ⟨g, o, none⟩) lb cb]).run Tryz.prog w = .ok (.value (.bool false)) w := fun o lb cb => by
  rw [run_callFunc_extern Tryz.func117 (by kernel_rfl) (by kernel_rfl) (by kernel_rfl) (e := Extern.SlicesOverlaps.overlaps #[140, 140] #[4]) (by kernel_rfl),
   Lib.run_overlaps_apart w 140 4 150 Tryz.underlying140 3 (fun _ => rfl) ⟨vb, 0, none⟩ ⟨g, o, none⟩ 1 1 lb cb hvb 150 150 3 (c * 3) hsa hsb (by omega) hfa hfe]
  rfl
 have hz1 : ¬ ((i : Int) = (n : Int)) := by omega
 have hw1 : IntKind.i64.wrap ((i : Int) + 1) = (i : Int) + 1 := by rw [IntKind.wrap_i64]; unfold maxLen at hcm; omega
 have hb1 : (0 : Int) ≤ (i : Int) + 1 := by omega
 have htn : ((i : Int) + 1).toNat = i + 1 := by omega
 have hb2 : ¬ (c = i + 1) := by omega
 have hb3 : (i : Int) ≤ (n : Int) + 1 := by omega
 have hb4 : ¬ (c = i) := by omega
 have hcm2 : c ≤ 9223372036854775807 := by unfold maxLen at hcm; omega
 have hb5 : ¬ (c : Int) < (n : Int) + 1 := by omega
 have hb6 : (i : Int) ≤ (n : Int) := by omega
 have hb7 : (n : Int) ≤ (c : Int) := by omega
 have hb8 : (i : Int) + 1 ≤ (n : Int) + 1 := by omega
 have hDl : (flatE (es.drop i)).length = (n - i) * 3 := by rw [flatE_length, List.length_drop, hn]
 have hcsl : cur.toList.length = c * 3 := by rw [Array.length_toList, hcur]
 obtain ⟨C1, hC1⟩ : ∃ C1 : List Value, C1 = cur.toList.take ((i + 1) * 3) ++ flatE (es.drop i) ++ cur.toList.drop ((i + 1) * 3 + (flatE (es.drop i)).length) := ⟨_, rfl⟩
 obtain ⟨C2, hC2⟩ : ∃ C2 : List Value, C2 = C1.take (i * 3) ++ enV x ++ C1.drop (i * 3 + (enV x).length) := ⟨_, rfl⟩
 have hfin := moved_row (L := cur.toList) (F := flatE es) (X := enV x) (D := flatE (es.drop i)) (a := i * 3) (N := n * 3) hck (by rw [flatE_length, hn]) (by omega) rfl (flatE_drop es i).symm (by rw [hcsl]; omega) C1 C2 (by rw [hC1, show (i + 1) * 3 = i * 3 + 3 by omega]) hC2
 have hC1l : C1.length = c * 3 := by
  rw [hC1]
  simp only [List.length_append, List.length_take, List.length_drop, hDl, hcsl]
  omega
 have hsrc : ∀ j u, (flatE (es.drop i))[j]? = some u → w.cell? ⟨g, i * 3 + j, none⟩ = some u := fun j u hu => by
  have h1 : (flatE es)[i * 3 + j]? = some u := by rw [← flatE_drop, List.getElem?_drop] at hu; exact hu
  rw [← hck, List.getElem?_take] at h1
  split at h1
  ·simp [World.cell?, hg]; simpa using h1
  ·cases h1
 have hcp1 : ∀ dl, dl = n - i → ∀ ty dc sc, (Builtin.copy_ #[140, 140] ty #[.slice (some ⟨g, (i + 1) * 3, none⟩) dl dc, .slice (some ⟨g, i * 3, none⟩) (n + 1 - i) sc]).run Tryz.prog w.drew = .ok (goInt ((n - i : Nat) : Int)) (w.drew.setRow g C1.toArray) := fun dl hdl ty dc sc => by
  rw [hC1]
  exact run_copy_rowN w.drew _ _ ty 150 g ((i + 1) * 3) dl dc ⟨g, i * 3, none⟩ (n + 1 - i) sc cur 150 (flatE (es.drop i)) 3 (n - i) Tryz.underlying140 hsz hg (by simp only [Nat.min_def]; split <;> omega) hDl (fun j u hj => by rw [Addr.add_lit]; exact hsrc j u hj) (by rw [hDl, hcur]; omega) (flatE_oneCell _)
 obtain ⟨W1, hW1⟩ : ∃ W1, W1 = w.drew.setRow g C1.toArray := ⟨_, rfl⟩
 have hg1 : W1.heap[g]? = some (.cells C1.toArray 150 (0, 0)) := by rw [hW1]; exact setRow_heap w.drew g cur _ _ _ hg
 have hv1 : W1.heap[vb]? = some (.cells (enV x).toArray 150 (0, 0)) := by rw [hW1, setRow_other _ _ _ _ hvb]; exact hv
 have hcp2 : ∀ ty dc, (Builtin.copy_ #[140, 140] ty #[.slice (some ⟨g, i * 3, none⟩) (n + 1 - i) dc, .slice (some ⟨vb, 0, none⟩) 1 1]).run Tryz.prog W1 = .ok (goInt 1) (W1.setRow g C2.toArray) := fun ty dc => by
  rw [hC2]
  have h := run_copy_rowN (P := Tryz.prog) W1 140 140 ty 150 g (i * 3) (n + 1 - i) dc ⟨vb, 0, none⟩ 1 1 C1.toArray 150 (enV x) 3 1 Tryz.underlying140 hsz hg1 (by simp only [Nat.min_def]; split <;> omega) rfl (fun j u hj => by rw [Addr.add_lit, Nat.zero_add]; exact blk_cells hv1 j u hj) (by show i * 3 + 3 ≤ C1.toArray.size; rw [List.size_toArray, hC1l]; omega) (enV_one x)
  exact h
 rw [← hW1] at hcp1
 have hown : (W1.setRow g C2.toArray).ownsRow base 150 3 (.slice (some ⟨g, 0, none⟩) (n + 1) c) (n + 1) (flatE (es.take i ++ x :: es.drop i)) := by
  refine ⟨by rw [flatE_length, List.length_append, List.length_cons, List.length_take, List.length_drop]; omega, .inr ⟨g, c, C2.toArray, rfl, hbg, setRow_heap W1 g _ _ _ _ hg1, hroom, hcm, by rw [List.size_toArray, hfin.1, hcsl], ?_⟩⟩
  rw [flatE_ins, show (n + 1) * 3 = n * 3 + 3 by omega]
  exact hfin.2
 have hbel : Below base w (W1.setRow g C2.toArray) := by
  refine below_setRow ?_ hbg _
  rw [hW1]
  exact below_setRow (below_drew (Below.refl _ _)) hbg _
 have HOWN := Lib.hid hown
 have HBEL := Lib.hid hbel
 have HCP1 := Lib.hid hcp1
 have HCP2 := Lib.hid hcp2
 clear hsa hsb hfa hfe hfin hC1 hC2 hC1l hsrc hDl hcsl hown hbel hg1 hv1 hW1 hck hcur hv hg hcp1 hcp2
 go_enter Tryz.func84, Tryz.ntmps84
 go_wp2_with (simp only [hov])
 go_region_law (refine step_copy_runJ rfl _ _ 140 140 rfl (.slice (some ⟨g, (i + 1) * 3, none⟩) (n - i) (c - (i + 1))) (.slice (some ⟨g, i * 3, none⟩) (n + 1 - i) (c - i)) (by simp [Act.eval, Act.put]) (by simp [Act.eval, Act.put]) (HCP1.out _ rfl _ _ _) ?_)
 have h2 := HCP2.out
 go_wp2
 go_ret
 exact ⟨_, rfl, by rw [hn]; exact HOWN.out, HBEL.out⟩
theorem filled_row {α : Type} {R F X D : List α} {a N : Nat} (hN : F.length = N) (ha : a ≤ N) (hR : R.take a = F.take a) (hX : X.length = 3) (hD : D = F.drop a) (hL : N + 3 ≤ R.length) :
  ∀ C1 C2, C1 = R.take a ++ X ++ R.drop (a + X.length) → C2 = C1.take (a + 3) ++ D ++ C1.drop (a + 3 + D.length) → C2.length = R.length ∧ C2.take (N + 3) = F.take a ++ X ++ F.drop a := by
 intro C1 C2 h1 h2
 have hDl : D.length = N - a := by rw [hD, List.length_drop, hN]
 have hFa : (F.take a).length = a := by rw [List.length_take]; omega
 have e1 : C1.take (a + 3) = F.take a ++ X := by
  have e0 : (F.take a ++ X).length = a + 3 := by rw [List.length_append, hFa, hX]
  rw [h1, hR, ← e0, List.take_left]
 have hC1 : C1.length = R.length := by
  rw [h1, hR]
  simp only [List.length_append, hFa, hX, List.length_drop]
  omega
 rw [h2, e1]
 constructor
 ·simp only [List.length_append, hFa, hX, hDl, List.length_drop, hC1]
  omega
 ·have e4 : (F.take a ++ X ++ D).length = N + 3 := by simp only [List.length_append, hFa, hX, hDl]; omega
  rw [← e4, List.take_left, hD]
set_option maxRecDepth 20000 in
set_option maxHeartbeats 4000000 in
theorem InsertE_grow (g n c i : Nat) (es : List En) (x : En) (vb base : Nat) (cur : Array Value) (w : World) (hn : es.length = n) (hg : w.heap[g]? = some (.cells cur 150 (0, 0))) (hbase : base ≤ w.heap.size) (hcur : cur.size = c * 3) (hck : cur.toList.take (n * 3) = flatE es) (hnc : n ≤ c) (hv : w.heap[vb]? = some (.cells (enV x).toArray 150 (0, 0))) (hi : i < n) (hroom : c < n + 1) (hl : n ≤ 4194304) :
  Calls Tryz.prog 84 #[.slice (some ⟨g, 0, none⟩) n c, .int .i64 (i : Nat), .slice (some ⟨vb, 0, none⟩) 1 1] w (GivesIns base w es x i) := by
 obtain ⟨i0, hi0, hz0, hzs, hzb⟩ := info_parts info_entry
 have hsz : (Tryz.prog.info? 150).map (·.size) = some 3 := by kernel_rfl
 have hgl := blk_lt hg
 have hvl := blk_lt hv
 have hcell : ∀ j u, (flatE es)[j]? = some u → w.cell? ⟨g, j, none⟩ = some u := fun j u h1 => by
  rw [← hck, List.getElem?_take] at h1
  split at h1
  ·simp [World.cell?, hg]; simpa using h1
  ·cases h1
 have hFt : (flatE (es.take i)).length = i * 3 := by rw [flatE_length, List.length_take, hn, Nat.min_eq_left (by omega)]
 have hold : (Builtin.firstCells i0.size i (.slice (some ⟨g, 0, none⟩) i c)).run Tryz.prog w.drew = .ok (flatE (es.take i)).toArray w.drew := by
  rw [hzs]
  exact run_firstCells_some (P := Tryz.prog) (w := w.drew) 3 i ⟨g, 0, none⟩ i c (flatE (es.take i)) hFt (fun j u hj => by
   rw [Addr.add_lit, Nat.zero_add]
   rw [← flatE_take, List.getElem?_take] at hj
   split at hj
   ·exact hcell j u hj
   ·cases hj)
 have hkk : (n : Int) + 1 - (i : Int) = ((n + 1 - i : Nat) : Int) := by omega
 have hik : i + (n + 1 - i) = n + 1 := by omega
 have hrz : ∀ ty, (Builtin.append_ #[140, 3] ty #[.slice (some ⟨g, 0, none⟩) i c, .int .i64 ((n : Int) + 1 - (i : Int))]).run Tryz.prog w =
   .ok (.slice (some ⟨w.heap.size, 0, none⟩) (n + 1) (grownCap w (n + 1) c 150)) (w.drew.alloc (.cells ((flatE (es.take i)).toArray ++ Builtin.zeroCells (Value.agg #[.string ⟨#[]⟩, .slice none 0 0, .slice none 0 0]).cells (n + 1 - i) ++ Builtin.zeroCells (Value.agg #[.string ⟨#[]⟩, .slice none 0 0, .slice none 0 0]).cells (grownCap w (n + 1) c 150 - (n + 1))) 150)) := fun ty => by
  have h := Lib.run_append_grow_zeros w 140 3 ty 150 i0 _ .i64 .i64 Tryz.underlying140 Tryz.underlying3 hi0 hz0 (some ⟨g, 0, none⟩) i c (flatE (es.take i)) hold (n + 1 - i) (by omega) (by omega) (by omega) (by omega) (by rw [hzb]; omega) (by rw [hzb, hik]; exact growslice_fits hroom (by omega))
  rw [hik] at h
  rw [hkk]
  exact h
 have hGn := grownCap_ge w (n + 1) c 150
 have hG63 := grownCap_le_maxLen w (n + 1) c 150 (by unfold maxLen; omega)
 obtain ⟨G, hG⟩ : ∃ G, G = grownCap w (n + 1) c 150 := ⟨_, rfl⟩
 obtain ⟨ROW, hROW⟩ : ∃ ROW : Array Value, ROW = (flatE (es.take i)).toArray ++ Builtin.zeroCells (Value.agg #[.string ⟨#[]⟩, .slice none 0 0, .slice none 0 0]).cells (n + 1 - i) ++ Builtin.zeroCells (Value.agg #[.string ⟨#[]⟩, .slice none 0 0, .slice none 0 0]).cells (G - (n + 1)) := ⟨_, rfl⟩
 rw [← hG] at hrz hGn hG63
 rw [← hROW] at hrz
 have hzc : ∀ k, (Builtin.zeroCells (Value.agg #[.string ⟨#[]⟩, .slice none 0 0, .slice none 0 0]).cells k).size = k * 3 := fun k => by
  simp [Builtin.zeroCells, Value.cells]
 have hRl : ROW.toList.length = G * 3 := by
  rw [hROW, Array.length_toList, Array.size_append, Array.size_append, hzc, hzc, List.size_toArray, hFt]
  omega
 have hRt : ROW.toList.take (i * 3) = (flatE es).take (i * 3) := by
  rw [hROW, Array.toList_append, Array.toList_append, List.append_assoc]
  exact (List.take_left' hFt).trans (flatE_take es i).symm
 obtain ⟨C1, hC1⟩ : ∃ C1 : List Value, C1 = ROW.toList.take (i * 3) ++ enV x ++ ROW.toList.drop (i * 3 + (enV x).length) := ⟨_, rfl⟩
 obtain ⟨C2, hC2⟩ : ∃ C2 : List Value, C2 = C1.take ((i + 1) * 3) ++ flatE (es.drop i) ++ C1.drop ((i + 1) * 3 + (flatE (es.drop i)).length) := ⟨_, rfl⟩
 have hDl : (flatE (es.drop i)).length = (n - i) * 3 := by rw [flatE_length, List.length_drop, hn]
 have hfin := filled_row (R := ROW.toList) (F := flatE es) (X := enV x) (D := flatE (es.drop i)) (a := i * 3) (N := n * 3) (by rw [flatE_length, hn]) (by omega) hRt rfl (flatE_drop es i).symm (by rw [hRl]; omega) C1 C2 hC1 (by rw [hC2, show (i + 1) * 3 = i * 3 + 3 by omega])
 have hC1l : C1.length = G * 3 := by
  rw [hC1]
  simp only [List.length_append, List.length_take, List.length_drop, hRl, enV_length]
  omega
 obtain ⟨W1, hW1⟩ : ∃ W1, W1 = w.drew.alloc (.cells ROW 150) := ⟨_, rfl⟩
 rw [← hW1] at hrz
 obtain ⟨N, hN⟩ : ∃ N, N = w.heap.size := ⟨_, rfl⟩
 rw [← hN] at hrz hgl hvl hbase
 have hgN : W1.heap[N]? = some (.cells ROW 150 (0, 0)) := by rw [hW1, hN]; exact heap_alloc_new _ _
 have hold1 : ∀ k, k < N → W1.heap[k]? = w.heap[k]? := fun k hk => by rw [hW1]; exact heap_alloc_old _ _ (by rw [hN] at hk; exact hk)
 have hcpA : ∀ ty dc, (Builtin.copy_ #[140, 140] ty #[.slice (some ⟨N, i * 3, none⟩) (n + 1 - i) dc, .slice (some ⟨vb, 0, none⟩) 1 1]).run Tryz.prog W1 = .ok (goInt 1) (W1.setRow N C1.toArray) := fun ty dc => by
  rw [hC1]
  have h := run_copy_rowN (P := Tryz.prog) W1 140 140 ty 150 N (i * 3) (n + 1 - i) dc ⟨vb, 0, none⟩ 1 1 ROW 150 (enV x) 3 1 Tryz.underlying140 hsz hgN (by simp only [Nat.min_def]; split <;> omega) rfl (fun j u hj => by rw [Addr.add_lit, Nat.zero_add]; exact blk_cells ((hold1 vb hvl).trans hv) j u hj) (by show i * 3 + 3 ≤ ROW.size; rw [← Array.length_toList, hRl]; omega) (enV_one x)
  exact h
 obtain ⟨W2, hW2⟩ : ∃ W2, W2 = W1.setRow N C1.toArray := ⟨_, rfl⟩
 rw [← hW2] at hcpA
 have hg2 : W2.heap[N]? = some (.cells C1.toArray 150 (0, 0)) := by rw [hW2]; exact setRow_heap W1 N _ _ _ _ hgN
 have hcpB : ∀ dl, dl = n - i → ∀ ty dc sc, (Builtin.copy_ #[140, 140] ty #[.slice (some ⟨N, (i + 1) * 3, none⟩) dl dc, .slice (some ⟨g, i * 3, none⟩) (n - i) sc]).run Tryz.prog W2.drew = .ok (goInt ((n - i : Nat) : Int)) (W2.drew.setRow N C2.toArray) := fun dl hdl ty dc sc => by
  rw [hC2]
  have h := run_copy_rowN (P := Tryz.prog) W2.drew 140 140 ty 150 N ((i + 1) * 3) dl dc ⟨g, i * 3, none⟩ (n - i) sc C1.toArray 150 (flatE (es.drop i)) 3 (n - i) Tryz.underlying140 hsz hg2 (by simp only [Nat.min_def]; split <;> omega) hDl (fun j u hj => by
   rw [Addr.add_lit]
   show W2.cell? _ = _
   rw [hW2, cell_setRow_other _ _ _ _ (show g ≠ N by omega)]
   have h1 : (flatE es)[i * 3 + j]? = some u := by rw [← flatE_drop, List.getElem?_drop] at hj; exact hj
   rw [World.cell?_of_block (hold1 g hgl)]
   exact hcell _ _ h1) (by show (i + 1) * 3 + _ ≤ C1.toArray.size; rw [List.size_toArray, hC1l, hDl]; omega) (flatE_oneCell _)
  exact h
 have hown : (W2.drew.setRow N C2.toArray).ownsRow base 150 3 (.slice (some ⟨N, 0, none⟩) (n + 1) G) (n + 1) (flatE (es.take i ++ x :: es.drop i)) := by
  refine ⟨by rw [flatE_length, List.length_append, List.length_cons, List.length_take, List.length_drop]; omega, .inr ⟨N, G, C2.toArray, rfl, hbase, setRow_heap W2.drew N _ _ _ _ hg2, hGn, hG63, by rw [List.size_toArray, hfin.1, hRl], ?_⟩⟩
  rw [flatE_ins, show (n + 1) * 3 = n * 3 + 3 by omega]
  exact hfin.2
 have hbel : Below base w (W2.drew.setRow N C2.toArray) := by
  refine below_setRow (below_drew ?_) hbase _
  rw [hW2]
  refine below_setRow ?_ hbase _
  rw [hW1]
  exact (below_drew (Below.refl _ _)).alloc (by rw [hN] at hbase; exact hbase) _
 have HOWN := Lib.hid hown
 have HBEL := Lib.hid hbel
 have HCPB := Lib.hid hcpB
 have HRZ := Lib.hid hrz
 have hz1 : ¬ ((i : Int) = (n : Int)) := by omega
 have hz3 : (c : Int) < (n : Int) + 1 := by omega
 have hw1 : IntKind.i64.wrap ((i : Int) + 1) = (i : Int) + 1 := by rw [IntKind.wrap_i64]; omega
 have hb1 : (0 : Int) ≤ (i : Int) + 1 := by omega
 have htn : ((i : Int) + 1).toNat = i + 1 := by omega
 have hb4 : ¬ (c = i) := by omega
 have hb6 : (i : Int) ≤ (n : Int) := by omega
 have hb7 : (n : Int) ≤ (c : Int) := by omega
 have hb8 : (i : Int) + 1 ≤ (n : Int) + 1 := by omega
 have hb9 : (i : Int) ≤ (n : Int) + 1 := by omega
 have hc63 : c ≤ 9223372036854775807 := by omega
 have hGi : ¬ (G = i) := by omega
 have hGim : ¬ (G = i + 1) := by omega
 have hG64 : G ≤ 9223372036854775807 := by unfold maxLen at hG63; omega
 clear hfin hC1 hC2 hC1l hDl hown hbel hg2 hgN hold1 hW1 hW2 hROW hRl hRt hzc hold hkk hik hFt hcell hck hcur hv hg hrz hcpB hG hN hgl hvl hG63
 go_enter Tryz.func84, Tryz.ntmps84
 go_wp2_with (at_builtin; refine Lib.wpList_append_run _ rfl _ _ _ _ rfl _ _ rfl rfl _ _ (HRZ.out _) ?_)
 go_region_law (refine step_copy_runJ rfl _ _ 140 140 rfl (.slice (some ⟨N, (i + 1) * 3, none⟩) (n - i) (G - (i + 1))) (.slice (some ⟨g, i * 3, none⟩) (n - i) (c - i)) (by simp [Act.eval, Act.put]) (by simp [Act.eval, Act.put]) (HCPB.out _ rfl _ _ _) ?_)
 go_wp2
 go_ret
 exact ⟨_, rfl, by rw [hn]; exact HOWN.out, HBEL.out⟩
theorem InsertE_any (v : Value) (es : List En) (x : En) (i vb base : Nat) (w : World) (hown : w.ownsRow base 150 3 v es.length (flatE es)) (hv : w.heap[vb]? = some (.cells (enV x).toArray 150 (0, 0))) (hvb : v.ownBlock ≠ some vb) (hi : i ≤ es.length) (hl : es.length ≤ 4194304) (hbase : base ≤ w.heap.size) :
  Calls Tryz.prog 84 #[v, .int .i64 (i : Nat), .slice (some ⟨vb, 0, none⟩) 1 1] w (GivesIns base w es x i) := by
 by_cases he : i = es.length
 ·subst he
  exact InsertE_end v es x vb base w hown hv hl hbase
 ·rcases hown.2 with ⟨_, h0⟩ | ⟨g, c, cur, rfl, hbg, hg, hnc, hcm, hcur, hck⟩
  ·omega
  ·by_cases hroom : es.length + 1 ≤ c
   ·exact InsertE_room g es.length c i es x vb base cur w rfl hg hbg hcur hck hcm hv (fun e => hvb (by rw [e]; rfl)) (by omega) hroom hl
   ·exact InsertE_grow g es.length c i es x vb base cur w rfl hg hbase hcur hck hnc hv (by omega) (by omega) hl
end Go.Proofs.YtiohmnhbmmhnhaaGreatDoor
