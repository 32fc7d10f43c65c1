/-
  ListW, Strs, without what the claim does not reach.
-/
import Derived.Test.YtbnafbdhomdcoaaGreatDoorZm12
import Derived.Test.YtbnafbdhomdcoaaGreatDoorZPlain
import Derived.WalkMore
import Derived.Deep.LoopGhost
import Derived.Test.YtbnafbdhomdcoaaGreatDoorZm5
import Derived.Lib.Join
namespace Go.Proofs.YtbnafbdhomdcoaaGreatDoor
open Go.RowKit Go.Shelf Go.Lib
def GivesStrsE (w : World) (r : List ByteArray × Int) (e : Ending) (w' : World) : Prop :=
 ∃ A c, e = .returned (.tuple #[.slice A r.1.length c, .int .i64 r.2]) ∧ w'.ownsRow w.heap.size 9 1 (.slice A r.1.length c) r.1.length (r.1.map .string) ∧ Below w.heap.size w w'
theorem gives_strsE {w w' : World} {A : Option Addr} {c : Nat} {x : List ByteArray} {n : Int} {r : List ByteArray × Int} (h : r = (x, n)) (ho : w'.ownsRow w.heap.size 9 1 (.slice A x.length c) x.length (x.map .string)) (hb : Below w.heap.size w w') :
  GivesStrsE w r (.returned (.tuple #[.slice A x.length c, .int .i64 n])) w' := by
 subst h
 exact ⟨A, c, rfl, ho, hb⟩
theorem gives_strsE0 {w w' : World} {n : Int} {r : List ByteArray × Int} (h : r = ([], n)) (hb : Below w.heap.size w w') : GivesStrsE w r (.returned (.tuple #[.slice none 0 0, .int .i64 n])) w' := by
 subst h
 exact ⟨none, 0, rfl, World.ownsRow_nil _ _ _ _, hb⟩
def elE (o : Option (List ByteArray)) : List ByteArray × Int := match o with
 | none => ([], 14)
 | some x => (x, 0)
theorem cleanL_take {L : List ByteArray} {k : Nat} {x : ByteArray} (h : L[k]? = some x) : cleanL (L.take (k + 1)) = if (trim x).size = 0 then cleanL (L.take k) else cleanL (L.take k) ++ [trim x] := by
 rw [take_snoc h, cleanL_append, cleanL_one]
 split <;> simp
theorem cleanL_len (L : List ByteArray) : (cleanL L).length ≤ L.length := by
 unfold cleanL
 refine Nat.le_trans (List.length_filter_le _ _) ?_
 rw [List.length_map]
 exact Nat.le_refl _
theorem not_empty {x : ByteArray} (h : ¬ x.size = 0) : x.toList.isEmpty = false := by rw [empty_eq]; exact decide_eq_false h
theorem is_empty {x : ByteArray} (h : x.size = 0) : x.toList.isEmpty = true := by rw [empty_eq]; exact decide_eq_true h
set_option maxRecDepth 20000 in
set_option maxHeartbeats 2000000 in
theorem oList_any (s : ByteArray) (w : World) (hs : s.size ≤ 1099511627776) :
  Calls Tryz.prog 162 #[.string s] w (GivesStrsE w (elE (elems s))) := by
 obtain ⟨i0, hi0, hz0, hz1, hz2⟩ := info_parts info_string
 go_enter Tryz.func162, Tryz.ntmps162
 go_wp2
 go_step3
 go_wp2
 go_step3
 go_wp2
 go_loopw [4, 5, 6] (fun v f t wr => ∃ (a i : Nat) (acc : List ByteArray), a ≤ i ∧ i ≤ s.size ∧ f = .int .i64 a ∧ t = .int .i64 i ∧ wr.ownsRow w.heap.size 9 1 v acc.length (acc.map .string) ∧ Below w.heap.size w wr ∧ ElAt s a i acc ∧ acc.length ≤ i ∧ (∀ x ∈ acc, x.size ≤ s.size)) (fun _ _ t _ => s.size - (RowKit.intOf t).toNat)
 case atStart => exact ⟨0, 0, [], by omega, by omega, rfl, rfl, World.ownsRow_nil _ _ _ _, Below.refl _ _, ElAt.start s, by simp, fun x hx => by cases hx⟩
 case round =>
  obtain ⟨a, i, acc, ha, hi, rfl, rfl, hown, hbw, hE, hal, hax⟩ := hrel
  have HAX := Lib.hid hax
  clear hax
  by_cases hlt : i < s.size
  ·have hb := @bt_eq s i hlt
   have hne : ((i : Int) == (s.size : Int)) = false := beq_eq_false_iff_ne.2 (by omega)
   by_cases h34 : bt s i = 34
   ·have hc := beq_iff_eq.2 h34
    have hz := ext_size s (a := i) (b := s.size) (by omega) (Nat.le_refl _)
    have hb0 : bt (s.extract i s.size) 0 = bt s i := ext_bt s (j := 0) (by omega)
    have HU := Lib.hid (fun w => Unquote_any (s.extract i s.size) w (by omega) (by omega) (by rw [hb0]; exact h34))
    have hql := (quLen_le (s.extract i s.size)).1
    have HN := Lib.hid (hE.quo_none ha hlt h34)
    have HO := Lib.hid (hE.quo_on ha hlt h34)
    rw [hz] at hql
    generalize quLen (s.extract i s.size) = n at HU hql HN HO
    clear h34 hE hz hb0
    rcases Nat.eq_zero_or_pos n with hn | hn
    ·have HX := Lib.hid (HN.out hn)
     clear HN HO
     go_wp2_with fail
     refine (HU.out _).mono ?_
     rw [hn]
     rintro e w1 ⟨v, rfl, hb1⟩
     clear hn
     go_wp2
     rw [Exit.noGoto_ret]; go_ret2
     exact gives_strsE0 (by rw [HX.out]; rfl) (hbw.trans (hb1.mono hbw.size))
    ·have HX := Lib.hid (HO.out hn)
     clear HN HO
     go_wp2_with fail
     refine (HU.out _).mono ?_
     rintro e w1 ⟨v, rfl, hb1⟩
     rw [if_neg (by omega)]
     go_wp2
     go_roundw
     case rel => exact ⟨a, i + n, acc, by omega, by omega, rfl, by go_num, own_below hown hb1, hbw.trans (hb1.mono hbw.size), HX.out, by omega, HAX.out⟩
     case measure => simp [RowKit.intOf]; omega
   ·have hc : (bt s i == 34) = false := beq_eq_false_iff_ne.2 h34
    by_cases h44 : bt s i = 44
    ·have hc2 := beq_iff_eq.2 h44
     have HX := Lib.hid (hE.comma ha hlt h44)
     have hpz := ext_size s (a := a) (b := i) ha (by omega)
     have hps : (s.extract a i).size ≤ s.size := by omega
     clear h34 h44 hE hpz
     go_wp2_with (at_builtin; refine wpList_append_own _ rfl _ _ 22 rfl w.heap.size 9 i0 (.string ⟨#[]⟩) 1 16 Tryz.underlying22 hi0 hz0 hz1 hz2 rfl (by decide) _ _ _ rfl (hown.alloc _) ⟨wr.heap.size, 0, none⟩ 1 1 [.string (s.extract a i)] rfl rfl (cell_one_new _ _ _) ?c1 ?c2 ?c3 ?c4 ?c5)
     case c1 => exact strs_oneCell [s.extract a i]
     case c2 => unfold maxLen; omega
     case c3 => omega
     case c4 => simp; have := hbw.size; omega
     case c5 =>
      intro v' w2 hown2 hg2 _
      go_wp2
      go_roundw
      case rel => exact ⟨i + 1, i + 1, acc ++ [s.extract a i], by omega, by omega, by go_num, by go_num, by rw [List.map_append, List.length_append]; exact hown2, (hbw.alloc hbw.size _).grown hg2 (by simp; have := hbw.size; omega) (own_lt hown), HX.out, by simp; omega, fun x hx => by
       rcases List.mem_append.1 hx with hx | hx
       ·exact HAX.out x hx
       ·simp at hx; subst hx; exact hps⟩
      case measure => simp [RowKit.intOf]; omega
    ·have hc2 : (bt s i == 44) = false := beq_eq_false_iff_ne.2 h44
     have HX := Lib.hid (hE.on ha hlt h34 h44)
     clear h34 h44 hE
     go_wp2
     go_roundw
     case rel => exact ⟨a, i + 1, acc, by omega, by omega, rfl, by go_num, hown, hbw, HX.out, by omega, HAX.out⟩
     case measure => simp [RowKit.intOf]; omega
  ·obtain rfl : i = s.size := by omega
   have HX := Lib.hid (hE.end_ rfl)
   have hpz := ext_size s (a := a) (b := s.size) ha (Nat.le_refl _)
   have hps : (s.extract a s.size).size ≤ s.size := by omega
   have HL := Lib.hid (show ∀ x ∈ acc ++ [s.extract a s.size], x.size ≤ s.size from fun x hx => by
    rcases List.mem_append.1 hx with hx | hx
    ·exact HAX.out x hx
    ·simp at hx; subst hx; exact hps)
   clear hE hpz
   go_wp2_with (at_builtin; refine wpList_append_own _ rfl _ _ 22 rfl w.heap.size 9 i0 (.string ⟨#[]⟩) 1 16 Tryz.underlying22 hi0 hz0 hz1 hz2 rfl (by decide) _ _ _ rfl (hown.alloc _) ⟨wr.heap.size, 0, none⟩ 1 1 [.string (s.extract a s.size)] rfl rfl (cell_one_new _ _ _) ?d1 ?d2 ?d3 ?d4 ?d5)
   case d1 => exact strs_oneCell [s.extract a s.size]
   case d2 => unfold maxLen; omega
   case d3 => omega
   case d4 => simp; have := hbw.size; omega
   case d5 =>
    intro v' w2 hown2 hg2 _
    have hb2 : Below w.heap.size w w2 := (hbw.alloc hbw.size _).grown hg2 (by simp; have := hbw.size; omega) (own_lt hown)
    have e1 : acc.map Value.string ++ [Value.string (s.extract a s.size)] = (acc ++ [s.extract a s.size]).map Value.string := by simp
    rw [e1] at hown2
    have hlen : (acc ++ [s.extract a s.size]).length = acc.length + 1 := by simp
    obtain ⟨A2, c2, rfl⟩ := own_slice hown2
    have hrow := own_row hown2
    have hcap := own_cap hown2
    clear hown hg2 hbw hown2 e1
    generalize acc ++ [s.extract a s.size] = L at *
    rw [← hlen] at hcap ⊢
    clear hps ha
    have hLl : L.length ≤ s.size + 1 := by omega
    clear hlen hal
    go_wp2
    go_loopw [10, 60] (fun v i wr => ∃ k : Nat, k ≤ L.length ∧ i = .int .i64 k ∧ wr.ownsRow w2.heap.size 9 1 v (cleanL (L.take k)).length ((cleanL (L.take k)).map .string) ∧ Below w2.heap.size w2 wr) (fun _ i _ => L.length - (RowKit.intOf i).toNat)
    case atStart => exact ⟨0, by omega, rfl, World.ownsRow_nil _ _ _ _, Below.refl _ _⟩
    case round =>
     obtain ⟨k, hk, rfl, hown, hbw⟩ := hrel
     by_cases hlt : k < L.length
     ·obtain ⟨x, hx⟩ := some_of_lt hlt
      obtain ⟨b, off, rfl, hb, h0⟩ := (hrow.below hbw).str hx
      have hxs := HL.out x (List.mem_of_getElem? hx)
      have hlk := Nat.le_trans (cleanL_len (L.take k)) (List.length_take_le _ _)
      have HT := Lib.hid (fun w => Trim_any x w (by unfold maxLen; omega))
      have HC := Lib.hid (cleanL_take hx)
      clear hx
      generalize trim x = y at HT HC
      go_wp2_with fail
      refine (HT.out _).mono ?_
      rintro e w3 ⟨rfl, hb3⟩
      have hown3 := own_below hown hb3
      have hbw3 := hbw.trans (hb3.mono hbw.size)
      clear hown hb3
      by_cases hy : y.size = 0
      ·have he := is_empty hy
       have HC2 := Lib.hid (HC.out.trans (if_pos hy))
       clear hy HC
       go_wp2
       go_roundw
       case rel => exact ⟨k + 1, by omega, by go_num, by rw [HC2.out]; exact hown3, hbw3⟩
       case measure => simp [RowKit.intOf]; omega
      ·have he := not_empty hy
       have HC2 := Lib.hid (HC.out.trans (if_neg hy))
       clear hy HC
       go_wp2_with (at_builtin; refine wpList_append_own _ rfl _ _ 22 rfl w2.heap.size 9 i0 (.string ⟨#[]⟩) 1 16 Tryz.underlying22 hi0 hz0 hz1 hz2 rfl (by decide) _ _ _ rfl (hown3.alloc _) ⟨w3.heap.size, 0, none⟩ 1 1 [.string y] rfl rfl (cell_one_new _ _ _) ?e1 ?e2 ?e3 ?e4 ?e5)
       case e1 => exact strs_oneCell [y]
       case e2 => unfold maxLen; omega
       case e3 => omega
       case e4 => simp; have := hbw3.size; omega
       case e5 =>
        intro v' w4 hown4 hg4 _
        go_wp2
        go_roundw
        case rel => exact ⟨k + 1, by omega, by go_num, by rw [HC2.out, List.map_append, List.length_append]; exact hown4, (hbw3.alloc hbw3.size _).grown hg4 (by simp; have := hbw3.size; omega) (own_lt hown3)⟩
        case measure => simp [RowKit.intOf]; omega
     ·obtain rfl : k = L.length := by omega
      rw [List.take_length] at hown
      obtain ⟨A', c', rfl⟩ := own_slice hown
      go_wp2
      rw [Exit.noGoto_ret]; go_ret2
      exact gives_strsE (by rw [HX.out]; rfl) (hown.mono hb2.size) (hb2.trans (hbw.mono hb2.size))
end Go.Proofs.YtbnafbdhomdcoaaGreatDoor
namespace Go.Proofs.YtbnafbdhomdcoaaGreatDoor
open Go.RowKit Go.Shelf Go.Lib
theorem bulk_all (l : List Fl) (name : ByteArray) : ((allV l name).map (·.size)).sum + (allV l name).length * 3 ≤ bulkF l := by
 induction l with
 | nil => exact Nat.le_refl _
 | cons p l ih =>
  have e : bulkF (p :: l) = p.1.size + p.2.size + 3 + bulkF l := by simp [bulkF]
  have h : allV (p :: l) name = if alike p.1 name = true then p.2 :: allV l name else allV l name := by
   unfold allV
   cases hp : alike p.1 name <;> simp [hp]
  rw [h, e]
  split
  ·simp only [List.map_cons, List.sum_cons, List.length_cons]; omega
  ·omega
theorem bulk_len (l : List Fl) : l.length * 3 ≤ bulkF l := by
 induction l with
 | nil => exact Nat.le_refl _
 | cons p l ih =>
  have e : bulkF (p :: l) = p.1.size + p.2.size + 3 + bulkF l := by simp [bulkF]
  rw [e, List.length_cons]; omega
theorem bulk_wide {l : List Fl} (h : bulkF l ≤ 1048576) : Wide l := by
 induction l with
 | nil => intro p hp; cases hp
 | cons p l ih =>
  have e : bulkF (p :: l) = p.1.size + p.2.size + 3 + bulkF l := by simp [bulkF]
  intro q hq
  rcases List.mem_cons.1 hq with rfl | hq
  ·constructor <;> unfold maxLen <;> omega
  ·exact ih (by omega) q hq
theorem containsS_eq (zs : List ByteArray) (x : ByteArray) : Lib.containsS zs x = isIn zs x := by
 rw [Bool.eq_iff_iff, Lib.containsS_iff, isIn_iff]
theorem getD_str {zs : List ByteArray} {j : Nat} (h : j < zs.length) : (zs.map Value.string)[j]? = some (.string (zs.getD j ByteArray.empty)) := by
 rw [List.getElem?_map, List.getD_eq_getElem?_getD, List.getElem?_eq_getElem h]
 rfl
theorem Contains_any (A : Option Addr) (c : Nat) (zs : List ByteArray) (x : ByteArray) (w : World) (hr : Row w A (zs.map .string)) (hl : zs.length ≤ 1099511627776) :
  Calls Tryz.prog 95 #[.slice A zs.length c, .string x] w fun e w' => e = .returned (.bool (isIn zs x)) ∧ w = w' := by
 rcases Nat.eq_zero_or_pos zs.length with h0 | h0
 ·obtain rfl : zs = [] := List.eq_nil_of_length_eq_zero h0
  exact (Tryz.slices_Contains_string_empty A c x w).mono fun e w' ⟨h1, h2⟩ => ⟨h1, h2.symm⟩
 ·obtain ⟨b, off, rfl, hb, hc⟩ := hr (by rw [List.length_map]; exact h0)
  refine (Tryz.slices_Contains_string b off zs.length c zs x w (Nat.le_refl _) (by omega) (fun j hj => hc j _ (getD_str hj))).mono fun e w' ⟨h1, h2⟩ => ⟨?_, h2.symm⟩
  rw [h1, List.take_length, containsS_eq]
def joinR (vs : List ByteArray) : ByteArray := ⟨(Lib.join (vs.map (·.data.toList)) [44, 32]).toArray⟩
theorem joinR_len (vs : List ByteArray) : (Lib.join (vs.map (·.data.toList)) [44, 32]).length ≤ (vs.map (·.size)).sum + vs.length * 2 := by
 cases vs with
 | nil => exact Nat.le_refl _
 | cons x r =>
  rw [List.map_cons, Lib.join_length]
  have : ∀ l : List ByteArray, Lib.lens (l.map (·.data.toList)) = (l.map (·.size)).sum := by
   intro l
   induction l with
   | nil => rfl
   | cons y l ih => simp [Lib.lens, ← ih]
  rw [← List.map_cons (f := fun x : ByteArray => x.data.toList), this]
  simp
  omega
set_option maxRecDepth 20000 in
theorem Join_any (A : Option Addr) (c : Nat) (zs : List ByteArray) (w : World) (hr : Row w A (zs.map .string)) (hc : zs.length ≤ c) (hl : (zs.map (·.size)).sum + zs.length * 3 ≤ 1099511627776) :
  Calls Tryz.prog 96 #[.slice A zs.length c] w fun e w' => e = .returned (.string (joinR zs)) ∧ Below w.heap.size w w' := by
 rcases Nat.eq_zero_or_pos zs.length with h0 | h0
 ·obtain rfl : zs = [] := List.eq_nil_of_length_eq_zero h0
  have hJ := Lib.hid (Tryz.strings_Join_none A c ⟨#[44, 32]⟩ w)
  go_enter Tryz.func96, Tryz.ntmps96
  go_wp2_with fail
  refine hJ.out.mono ?_
  rintro e w1 ⟨rfl, rfl⟩
  go_wp2
  go_ret
  exact ⟨rfl, Below.refl _ _⟩
 ·obtain ⟨b, off, rfl, hb, hcell⟩ := hr (by rw [List.length_map]; exact h0)
  have hlen := joinR_len zs
  have hJ := Lib.hid (Tryz.strings_Join b off c zs ⟨#[44, 32]⟩ w (fun j x hx => hcell j _ (by rw [List.getElem?_map, hx]; rfl)) hb (by omega) hc (by show (Lib.join _ [44, 32]).length ≤ _; omega))
  go_enter Tryz.func96, Tryz.ntmps96
  go_wp2_with fail
  refine hJ.out.mono ?_
  rintro e w1 ⟨rfl, hb1⟩
  go_wp2
  go_ret
  exact ⟨rfl, hb1⟩
set_option maxRecDepth 20000 in
theorem Joined_any (A : Option Addr) (c : Nat) (l : List Fl) (name : ByteArray) (w : World) (hr : Row w A (flat l)) (hk : bulkF l ≤ 1048576) (hn : name.size ≤ maxLen) :
  Calls Tryz.prog 112 #[.slice A l.length c, .string name] w fun e w' => e = .returned (.tuple #[.string (joinR (allV l name)), .bool (decide (0 < (allV l name).length))]) ∧ Below w.heap.size w w' := by
 have hbl := bulk_len l
 have hba := bulk_all l name
 have HA := Lib.hid (All_any A c l name w hr (by omega) (bulk_wide hk) hn)
 generalize allV l name = vs at *
 go_enter Tryz.func112, Tryz.ntmps112
 go_wp2_with fail
 refine HA.out.mono ?_
 rintro e w1 ⟨A1, c1, rfl, hown, hb⟩
 have hcap := own_cap hown
 have hrow := own_row hown
 clear hown
 go_wp2_with fail
 refine (Join_any A1 c1 vs w1 hrow hcap (by omega)).mono ?_
 rintro e w2 ⟨rfl, hb2⟩
 rcases Nat.eq_zero_or_pos vs.length with h0 | h0
 ·have hd : decide ((0 : Int) < (vs.length : Int)) = false := decide_eq_false (by omega)
  have HD := Lib.hid (show decide (0 < vs.length) = false from decide_eq_false (by omega))
  clear h0
  go_wp2
  go_ret2
  exact ⟨by first | rfl | (rw [HD.out]; rfl), hb.trans (hb2.mono hb.size)⟩
 ·have hd : decide ((0 : Int) < (vs.length : Int)) = true := decide_eq_true (by omega)
  have HD := Lib.hid (show decide (0 < vs.length) = true from decide_eq_true (by omega))
  go_wp2
  go_ret2
  exact ⟨by first | rfl | (rw [HD.out]; rfl), hb.trans (hb2.mono hb.size)⟩
end Go.Proofs.YtbnafbdhomdcoaaGreatDoor
