/-
 RxG, without what this claim does not reach.
-/
import Derived.Test.YtiohmnhbmmhnhaaGreatDoorZRxR
import Derived.Test.YtiohmnhbmmhnhaaGreatDoorZRxV
import Derived.Test.YtiohmnhbmmhnhaaGreatDoorZTgJo
import Derived.Maps.OwnOps
import Derived.Maps.Views
import Derived.Deep.RegionHeld3
namespace Go.Proofs.YtiohmnhbmmhnhaaGreatDoor
open Go.RowKit Go.Shelf Go.Lib
def GivesPcs (w : World) (l : List Pc) (e : Ending) (w' : World) : Prop :=
 ∃ A c, e = .returned (.slice A l.length c) ∧ w'.ownsRow w.heap.size 109 2 (.slice A l.length c) l.length (flatP l) ∧ Below w.heap.size w w'
theorem gives_pcs {w w' : World} {l : List Pc} {v : Value} (ho : w'.ownsRow w.heap.size 109 2 v l.length (flatP l)) (hb : Below w.heap.size w w') : GivesPcs w l (.returned v) w' := by
 obtain ⟨A, c, rfl⟩ := own_slice ho
 exact ⟨A, c, rfl, ho, hb⟩
set_option maxRecDepth 20000 in
set_option maxHeartbeats 4000000 in
theorem steps_any (A : Option Addr) (c : Nat) (l : List Pc) (w : World) (hr : Row w A (flatP l)) (hl : totP l ≤ 4194304) :
  Calls Tryz.prog 115 #[.slice A l.length c] w (GivesPcs w (stepsP l)) := by
 obtain ⟨i0, hi0, hz0, hz1, hz2⟩ := info_parts info_piece
 have hll := totP_len l
 go_enter Tryz.func115, Tryz.ntmps115
 go_wp2
 go_loopw [3, 4, 9] (fun v t i wr => ∃ (k : Nat) (tx : ByteArray) (out : List Pc), k ≤ l.length ∧ i = .int .i64 k ∧ t = .string tx ∧ Hid (k = 0 → tx.size = 0) ∧ Hid (stepsGo (l.drop k) k tx out = stepsP l) ∧ Hid (tx.size + totP (l.drop k) ≤ totP l) ∧ Hid (out.length ≤ 2 * k) ∧ wr.ownsRow w.heap.size 109 2 v out.length (flatP out) ∧ Below w.heap.size w wr) (fun _ _ i _ => l.length - (RowKit.intOf i).toNat)
 case atStart => exact ⟨0, ⟨#[]⟩, [], by omega, rfl, rfl, Lib.hid (fun _ => rfl), Lib.hid rfl, Lib.hid (by show 0 + totP l ≤ _; omega), Lib.hid (Nat.le_refl _), World.ownsRow_nil _ _ _ _, Below.refl _ _⟩
 case round =>
  obtain ⟨k, tx, out, hk, rfl, rfl, HT0, HS, HT, HO, hown, hbw⟩ := hrel
  obtain ⟨OA, Oc, rfl⟩ := own_slice hown
  by_cases hlt : k < l.length
  ·obtain ⟨⟨x, y⟩, hxy⟩ := some_of_lt hlt
   obtain ⟨b, off, rfl, hb, h0, h1⟩ := (hr.below hbw).pc hxy
   have hdr := drop_of_some hxy
   have hs := HS.out
   have ht := HT.out
   rw [hdr] at hs ht
   rw [totP_cons] at ht
   dsimp only at ht
   have htx : tx.size ≤ 4194304 := by omega
   have hty : y.size ≤ 4194304 := by omega
   have hol := HO.out
   have hno1 : ¬ 9223372036854775807 < tx.size + 1 := by omega
   have hno2 : ¬ 9223372036854775807 < tx.size + 1 + y.size := by omega
   have hno3 : ¬ 9223372036854775807 < tx.size + y.size := by omega
   have hown1 := hown.alloc (.cells #[.int .i64 x, .string y] 109)
   have hb1 := hbw.alloc hbw.size (.cells #[.int .i64 x, .string y] 109)
   clear hxy hdr HS HT HO
   by_cases hk0 : k = 0
   ·have hki : ¬ (0 : Int) < (k : Int) := by omega
    have htz := HT0.out hk0
    by_cases hx : x = 0
    ·have hq : (x == 0) = true := by rw [hx]; rfl
     rw [steps_first_text hx hk0] at hs
     have HS := Lib.hid hs
     have HT := Lib.hid (show (tx ++ y).size + totP (l.drop (k + 1)) ≤ totP l by rw [ByteArray.size_append]; omega)
     clear hs ht hx hk0 htz HT0
     go_wp2
     go_roundw
     case rel => exact ⟨k + 1, _, _, by omega, by go_num, rfl, Lib.hid (fun h => by omega), HS, HT, Lib.hid (by omega), hown1, hb1⟩
     case measure => simp [RowKit.intOf]; omega
    ·have hq : (x == 0) = false := by simpa using hx
     have he : tx.toList.isEmpty = true := by rw [empty_eq]; exact decide_eq_true htz
     rw [steps_first_edge hx hk0 htz] at hs
     have HS := Lib.hid hs
     have HT := Lib.hid (show (⟨#[]⟩ : ByteArray).size + totP (l.drop (k + 1)) ≤ totP l by show 0 + _ ≤ _; omega)
     clear hs ht hx hk0 htz HT0
     go_wp2_with (at_builtin; refine wpList_append_any _ rfl (.tmp 32) (.tmp 34) 104 rfl w.heap.size 109 i0 (.agg #[.int .i64 0, .string ⟨#[]⟩]) 2 24 Tryz.underlying104 hi0 hz0 hz1 hz2 rfl (by decide) _ _ _ rfl (hown1.alloc _) _ (some ⟨wr.heap.size + 1, 0, none⟩) 1 1 [.int .i64 x, .string y] rfl (reads_of_row (row_newc (wr.alloc (.cells #[.int .i64 x, .string y] 109)) _ 109 (by simp)) rfl (by decide)) ?a1 ?a2 ?a3 ?a4 ?a5)
     case a1 => first | exact flatP_oneCell [(x, y)] | exact ⟨rfl, rfl⟩
     case a2 => unfold maxLen; omega
     case a3 => omega
     case a4 => (try simp); have := hb1.size; (try simp at this); omega
     case a5 =>
      intro va wa howna hga _
      have hba := (hb1.alloc (hb1.size) _).grown hga (by (try simp); have := hb1.size; (try simp at this); omega) (own_lt hown1)
      have hoa : wa.ownsRow w.heap.size 109 2 va (out ++ [(x, y)]).length (flatP (out ++ [(x, y)])) := by rw [flatP_append, List.length_append]; exact howna
      clear howna hga
      have HOo := Lib.hid hoa
      have HBb := Lib.hid hba
      clear hoa hba
      go_wp2
      go_roundw
      case rel => exact ⟨k + 1, _, _, by omega, by go_num, rfl, Lib.hid (fun h => by omega), HS, HT, Lib.hid (by rw [List.length_append]; simp; omega), HOo.out, HBb.out⟩
      case measure => simp [RowKit.intOf]; omega
   ·have hki : (0 : Int) < (k : Int) := by omega
    by_cases hx : x = 0
    ·have hq : (x == 0) = true := by rw [hx]; rfl
     rw [steps_text hx hk0] at hs
     have HS := Lib.hid hs
     have HT := Lib.hid (show (tx ++ slashR ++ y).size + totP (l.drop (k + 1)) ≤ totP l by rw [ByteArray.size_append, slash_size]; omega)
     clear hs ht hx hk0 HT0
     go_wp2
     go_roundw
     case rel => exact ⟨k + 1, _, _, by omega, by go_num, rfl, Lib.hid (fun h => by omega), HS, HT, Lib.hid (by omega), hown1, hb1⟩
     case measure => simp [RowKit.intOf]; omega
    ·have hq : (x == 0) = false := by simpa using hx
     have hsl := slash_size tx
     obtain ⟨ts, hts⟩ : ∃ ts, tx ++ ⟨#[47]⟩ = ts := ⟨_, rfl⟩
     have hts2 : tx ++ slashR = ts := hts
     have htz : ts.size = tx.size + 1 := by rw [← hts2]; exact hsl
     have he : ts.toList.isEmpty = false := by rw [empty_eq]; exact decide_eq_false (by omega)
     rw [steps_edge hx hk0, hts2] at hs
     have HS := Lib.hid hs
     have HT := Lib.hid (show (⟨#[]⟩ : ByteArray).size + totP (l.drop (k + 1)) ≤ totP l by show 0 + _ ≤ _; omega)
     clear hs ht hx hk0 HT0 hsl hts2
     go_wp2_with (at_builtin; refine wpList_append_any _ rfl (.tmp 27) (.tmp 30) 104 rfl w.heap.size 109 i0 (.agg #[.int .i64 0, .string ⟨#[]⟩]) 2 24 Tryz.underlying104 hi0 hz0 hz1 hz2 rfl (by decide) _ _ _ rfl (hown1.alloc _) _ (some ⟨wr.heap.size + 1, 0, none⟩) 1 1 [.int .i64 0, .string ts] rfl (reads_of_row (row_newc (wr.alloc (.cells #[.int .i64 x, .string y] 109)) _ 109 (by simp)) rfl (by decide)) ?b1 ?b2 ?b3 ?b4 ?b5)
     case b1 => first | exact flatP_oneCell [(0, ts)] | exact ⟨rfl, rfl⟩
     case b2 => unfold maxLen; omega
     case b3 => omega
     case b4 => (try simp); have := hb1.size; (try simp at this); omega
     case b5 =>
      intro vb wb hownb hgb _
      have hbb := (hb1.alloc (hb1.size) _).grown hgb (by (try simp); have := hb1.size; (try simp at this); omega) (own_lt hown1)
      have hob : wb.ownsRow w.heap.size 109 2 vb (out ++ [(0, ts)]).length (flatP (out ++ [(0, ts)])) := by rw [flatP_append, List.length_append]; exact hownb
      clear hownb
      have hcx : wb.cell? ⟨wr.heap.size, 0, none⟩ = some (.int .i64 x) ∧ wb.cell? ⟨wr.heap.size, 1, none⟩ = some (.string y) := by
       have hne : some wr.heap.size ≠ (Value.slice OA out.length Oc).ownBlock := fun e => by have := own_blt hown _ e.symm; omega
       have hf0 := cell_far hgb ⟨wr.heap.size, 0, none⟩ (by simp; omega) hne
       have hf1 := cell_far hgb ⟨wr.heap.size, 1, none⟩ (by simp; omega) hne
       exact ⟨hf0.trans (by simp), hf1.trans (by simp)⟩
      obtain ⟨hcx0, hcx1⟩ := hcx
      clear hgb
      obtain ⟨o2, ho2⟩ : ∃ o2, o2 = out ++ [(0, ts)] := ⟨_, rfl⟩
      have hl2 : o2.length = out.length + 1 := by rw [ho2, List.length_append]; rfl
      rw [← ho2] at hob HS
      have hl3 : o2.length ≤ 2 * k + 1 := by omega
      clear ho2 hl2
      go_wp2_with (at_builtin; refine wpList_append_any _ rfl (.tmp 32) (.tmp 34) 104 rfl w.heap.size 109 i0 (.agg #[.int .i64 0, .string ⟨#[]⟩]) 2 24 Tryz.underlying104 hi0 hz0 hz1 hz2 rfl (by decide) _ _ _ rfl (hob.alloc _) _ (some ⟨wb.heap.size, 0, none⟩) 1 1 [.int .i64 x, .string y] rfl (reads_of_row (row_newc wb _ 109 (by simp)) rfl (by decide)) ?c1 ?c2 ?c3 ?c4 ?c5)
      case c1 => first | exact flatP_oneCell [(x, y)] | exact ⟨rfl, rfl⟩
      case c2 => unfold maxLen; omega
      case c3 => omega
      case c4 => (try simp); have := hbb.size; (try simp at this); omega
      case c5 =>
       intro vc wc hownc hgc _
       have hbc := (hbb.alloc (hbb.size) _).grown hgc (by (try simp); have := hbb.size; (try simp at this); omega) (own_lt hob)
       have hoc : wc.ownsRow w.heap.size 109 2 vc (o2 ++ [(x, y)]).length (flatP (o2 ++ [(x, y)])) := by rw [flatP_append, List.length_append]; exact hownc
       clear hownc hgc
       have HOo := Lib.hid hoc
       have HBb := Lib.hid hbc
       clear hoc hbc
       go_wp2
       go_roundw
       case rel => exact ⟨k + 1, _, _, by omega, by go_num, rfl, Lib.hid (fun h => by omega), HS, HT, Lib.hid (by rw [List.length_append]; simp; omega), HOo.out, HBb.out⟩
       case measure => simp [RowKit.intOf]; omega
  ·obtain rfl : k = l.length := by omega
   have hs := HS.out
   have ht := HT.out
   rw [List.drop_length] at hs ht
   have htx : tx.size ≤ 4194304 := by omega
   have hol := HO.out
   by_cases hz : tx.size = 0
   ·have he : tx.toList.isEmpty = true := by rw [empty_eq]; exact decide_eq_true hz
    rw [steps_end hz] at hs
    have HS := Lib.hid hs
    clear hs hz ht
    go_wp2
    go_ret
    rw [← HS.out]
    exact gives_pcs hown hbw
   ·have he : tx.toList.isEmpty = false := by rw [empty_eq]; exact decide_eq_false hz
    rw [steps_end_text hz] at hs
    have HS := Lib.hid hs
    clear hs hz ht
    go_wp2_with (at_builtin; refine wpList_append_any _ rfl (.tmp 39) (.tmp 42) 104 rfl w.heap.size 109 i0 (.agg #[.int .i64 0, .string ⟨#[]⟩]) 2 24 Tryz.underlying104 hi0 hz0 hz1 hz2 rfl (by decide) _ _ _ rfl (hown.alloc _) _ (some ⟨wr.heap.size, 0, none⟩) 1 1 [.int .i64 0, .string tx] rfl (reads_of_row (row_newc wr _ 109 (by simp)) rfl (by decide)) ?d1 ?d2 ?d3 ?d4 ?d5)
    case d1 => first | exact flatP_oneCell [(0, tx)] | exact ⟨rfl, rfl⟩
    case d2 => unfold maxLen; omega
    case d3 => omega
    case d4 => (try simp); have := hbw.size; (try simp at this); omega
    case d5 =>
     intro vd wd hownd hgd _
     have hbd := (hbw.alloc (hbw.size) _).grown hgd (by (try simp); have := hbw.size; (try simp at this); omega) (own_lt hown)
     have hod : wd.ownsRow w.heap.size 109 2 vd (out ++ [(0, tx)]).length (flatP (out ++ [(0, tx)])) := by rw [flatP_append, List.length_append]; exact hownd
     clear hownd hgd
     go_wp2
     go_ret
     rw [← HS.out]
     exact gives_pcs hod hbd
end Go.Proofs.YtiohmnhbmmhnhaaGreatDoor
namespace Go.Proofs.YtiohmnhbmmhnhaaGreatDoor
open Go.RowKit Go.Shelf Go.Lib Go.Maps Go.WideMaps
abbrev Wy := Nat × (Option Addr × Nat) × List Pc
def flatW (l : List Wy) : List Value := l.flatMap fun x => [.int .i64 (x.1 : Int), .slice x.2.1.1 x.2.2.length x.2.1.2]
theorem flatW_append (l m : List Wy) : flatW (l ++ m) = flatW l ++ flatW m := by simp [flatW]
theorem flatW_get {l : List Wy} {k : Nat} {x : Wy} (h : l[k]? = some x) : (flatW l)[k * 2]? = some (.int .i64 (x.1 : Int)) ∧ (flatW l)[k * 2 + 1]? = some (.slice x.2.1.1 x.2.2.length x.2.1.2) := by
 induction l generalizing k with
 | nil => simp at h
 | cons p l ih =>
  cases k with
  | zero =>
   simp at h
   subst h
   exact ⟨rfl, rfl⟩
  | succ k =>
   obtain ⟨h0, h1⟩ := ih (k := k) (by simpa using h)
   have e : flatW (p :: l) = .int .i64 (p.1 : Int) :: .slice p.2.1.1 p.2.2.length p.2.1.2 :: flatW l := rfl
   rw [e, show (k + 1) * 2 = k * 2 + 1 + 1 by omega, show k * 2 + 1 + 1 + 1 = (k * 2 + 1) + 1 + 1 from rfl]
   simp only [List.getElem?_cons_succ]
   exact ⟨h0, h1⟩
theorem Row.way {w : World} {A : Option Addr} {l : List Wy} {k : Nat} {x : Wy} (h : Row w A (flatW l)) (hk : l[k]? = some x) :
  ∃ b off, A = some ⟨b, off, none⟩ ∧ b < w.heap.size ∧ w.cell? ⟨b, off + k * 2, none⟩ = some (.int .i64 (x.1 : Int)) ∧ w.cell? ⟨b, off + k * 2 + 1, none⟩ = some (.slice x.2.1.1 x.2.2.length x.2.1.2) := by
 obtain ⟨h0, h1⟩ := flatW_get hk
 obtain ⟨b, off, e, hb, hc⟩ := h.at_ h0
 exact ⟨b, off, e, hb, hc _ _ h0, by rw [Nat.add_assoc]; exact hc _ _ h1⟩
theorem info_way : (Tryz.prog.info? 192).map (fun i => (i.zero, i.size, i.bytes)) = some (some (.agg #[.int .i64 0, .slice none 0 0]), 2, 32) := by kernel_rfl
def Typed (w : World) (A : Option Addr) : Prop := ∀ b off, A = some ⟨b, off, none⟩ → ∃ cs, w.heap[b]? = some (.cells cs 109)
theorem Typed.below {w w' : World} {A : Option Addr} (h : Typed w A) (hb : Below w.heap.size w w') : Typed w' A := fun b off e => by
 obtain ⟨cs, hc⟩ := h b off e
 exact ⟨cs, (hb.block b (Array.getElem?_eq_some_iff.1 hc).1).trans hc⟩
theorem Typed.shift {w : World} {b off off' : Nat} (h : Typed w (some ⟨b, off, none⟩)) : Typed w (some ⟨b, off', none⟩) := fun b2 o e => by
 injection e with e
 injection e with e _
 subst e
 exact h b off rfl
def WOne (w : World) (x : Wy) : Prop := Row w x.2.1.1 (flatP x.2.2) ∧ Typed w x.2.1.1 ∧ x.2.2.length ≤ x.2.1.2 ∧ x.2.1.2 ≤ maxLen
theorem WOne.below {w w' : World} {x : Wy} (h : WOne w x) (hb : Below w.heap.size w w') : WOne w' x := ⟨h.1.below hb, h.2.1.below hb, h.2.2⟩
theorem WOne.alloc {w : World} {x : Wy} (h : WOne w x) (o : Obj) : WOne (w.alloc o) x := h.below ((Below.refl _ _).alloc (Nat.le_refl _) o)
theorem WOne.grown {w w' : World} {x : Wy} (h : WOne w x) {b2 s2 n2 : Nat} {e2 : TypeId} {u : Value} {xs : List Value} (hu : w.ownsRow b2 e2 s2 u n2 xs) (he : e2 ≠ 109) (hg : w.grownBy w' u.ownBlock) : WOne w' x := by
 have key : ∀ b, (∃ cs, w.heap[b]? = some (.cells cs 109)) → some b ≠ u.ownBlock := fun b ⟨cs, hc⟩ e => by
  rcases hu.2 with ⟨rfl, _⟩ | ⟨g, cap, cur, rfl, _, hg2, _⟩
  ·simp [Value.ownBlock] at e
  ·simp only [Value.ownBlock, Option.some.injEq] at e
   subst e
   rw [hc] at hg2
   injection hg2 with hg2
   injection hg2 with _ hg2
   exact he hg2.symm
 refine ⟨fun hl => ?_, fun b off e => ?_, h.2.2⟩
 ·obtain ⟨b, off, e, hb, hc⟩ := h.1 hl
  exact ⟨b, off, e, Nat.lt_of_lt_of_le hb hg.size, fun j v hv => (cell_far hg ⟨b, off + j, none⟩ hb (key b (h.2.1 b off e))).trans (hc j v hv)⟩
 ·obtain ⟨cs, hc⟩ := h.2.1 b off e
  exact ⟨cs, (hg.block b (Array.getElem?_eq_some_iff.1 hc).1 (key b ⟨cs, hc⟩)).trans hc⟩
def WOk (w : World) (l : List Wy) : Prop := ∀ x ∈ l, WOne w x
theorem WOk.below {w w' : World} {l : List Wy} (h : WOk w l) (hb : Below w.heap.size w w') : WOk w' l := fun x hx => (h x hx).below hb
theorem WOk.alloc {w : World} {l : List Wy} (h : WOk w l) (o : Obj) : WOk (w.alloc o) l := fun x hx => (h x hx).alloc o
theorem WOk.grown {w w' : World} {l : List Wy} (h : WOk w l) {b2 s2 n2 : Nat} {e2 : TypeId} {u : Value} {xs : List Value} (hu : w.ownsRow b2 e2 s2 u n2 xs) (he : e2 ≠ 109) (hg : w.grownBy w' u.ownBlock) : WOk w' l := fun x hx => (h x hx).grown hu he hg
theorem WOk.append {w : World} {l m : List Wy} (h : WOk w l) (h2 : WOk w m) : WOk w (l ++ m) := fun x hx => by
 rcases List.mem_append.1 hx with hx | hx
 ·exact h x hx
 ·exact h2 x hx
theorem own_caps {w : World} {base n c : Nat} {E : TypeId} {sz : Nat} {A : Option Addr} {xs : List Value} (h : w.ownsRow base E sz (.slice A n c) n xs) : n ≤ c ∧ c ≤ maxLen := by
 rcases h.2 with ⟨e, _⟩ | ⟨g, cap, cur, e, _, _, h1, h2, _⟩
 ·injection e with _ e1 e2
  subst e1
  subst e2
  exact ⟨Nat.le_refl _, Nat.zero_le _⟩
 ·injection e with _ _ e2
  subst e2
  exact ⟨h1, h2⟩
theorem WOne.own {w : World} {base k c : Nat} {A : Option Addr} {l : List Pc} (h : w.ownsRow base 109 2 (.slice A l.length c) l.length (flatP l)) : WOne w (k, (A, c), l) := ⟨own_row h, fun b off e => by
 rcases h.2 with ⟨e2, _⟩ | ⟨g, cap, cur, e2, _, hg, _⟩
 ·injection e2 with e2
  subst e2
  cases e
 ·injection e2 with e2
  subst e2
  injection e with e
  injection e with e _
  subst e
  exact ⟨cur, hg⟩, own_caps h⟩
theorem WOk.one {w : World} {x : Wy} (h : WOne w x) : WOk w [x] := fun y hy => by
 obtain rfl : y = x := by simpa using hy
 exact h
theorem Row.behind {w : World} {b off : Nat} {p : Pc} {l : List Pc} (h : Row w (some ⟨b, off, none⟩) (flatP (p :: l))) : Row w (some ⟨b, off + 2, none⟩) (flatP l) := fun hl => by
 obtain ⟨b', off', e, hb, hc⟩ := h (by show 0 < (flatP l).length + 2; omega)
 injection e with e
 injection e with e1 e2
 subst e1
 subst e2
 refine ⟨b, off + 2, rfl, hb, fun j v hv => ?_⟩
 have := hc (j + 2) v (by show (flatP l)[j]? = some v; exact hv)
 rwa [show off + (j + 2) = off + 2 + j by omega] at this
def upd {α : Type} (F : Nat → α) (i : Nat) (x : α) : Nat → α := fun j => if j = i then x else F j
theorem upd_same {α : Type} (F : Nat → α) (i : Nat) (x : α) : upd F i x i = x := if_pos rfl
theorem upd_other {α : Type} {F : Nat → α} {i j : Nat} {x : α} (h : j ≠ i) : upd F i x j = F j := if_neg h
structure Fam (w : World) (base : Nat) (F : Nat → Value) (G : Nat → List Wy) : Prop where
 own : ∀ i, i < 258 → w.ownsRow base 192 2 (F i) (G i).length (flatW (G i))
 apart : ∀ i j, i < 258 → j < 258 → i ≠ j → Apart (F i) (F j)
section
variable {w w' : World} {base : Nat} {F : Nat → Value} {G : Nat → List Wy}
theorem Fam.start (w : World) (base : Nat) : Fam w base (fun _ => .slice none 0 0) (fun _ => []) :=
 ⟨fun _ _ => World.ownsRow_nil _ _ _ _, fun _ _ _ _ _ k hk => by simp [Value.ownBlock] at hk⟩
theorem Fam.below (h : Fam w base F G) (hb : Below w.heap.size w w') : Fam w' base F G := ⟨fun i hi => own_below (h.own i hi) hb, h.apart⟩
theorem Fam.alloc (h : Fam w base F G) (o : Obj) : Fam (w.alloc o) base F G := h.below ((Below.refl _ _).alloc (Nat.le_refl _) o)
theorem Fam.kept (h : Fam w base F G) {row : Option Nat} (hg : w.grownBy w' row) (hne : ∀ k, row = some k → k < base) : Fam w' base F G :=
 ⟨fun i hi => (h.own i hi).kept hg (by
  cases hv : (F i).ownBlock with
  | none => exact .inl rfl
  | some k => exact .inr (fun e => by have h1 := own_lt (h.own i hi) k hv; have h2 := hne k e.symm; omega)), h.apart⟩
theorem Fam.beside (h : Fam w base F G) {b2 s2 n2 : Nat} {e2 : TypeId} {u : Value} {xs : List Value} (hu : w.ownsRow b2 e2 s2 u n2 xs) (he : e2 ≠ 192) (hg : w.grownBy w' u.ownBlock) : Fam w' base F G :=
 ⟨fun i hi => own_other (h.own i hi) hg (apart_types hu (h.own i hi) he), h.apart⟩
theorem Fam.grow (h : Fam w base F G) {i : Nat} (hi : i < 258) {v' : Value} {x : Wy} (hg : w.grownBy w' (F i).ownBlock) (ho : w'.ownsRow base 192 2 v' ((G i).length + 1) (flatW (G i) ++ flatW [x]))
  (alt : v'.ownBlock = (F i).ownBlock ∨ v'.ownBlock = some w.heap.size) : Fam w' base (upd F i v') (upd G i (G i ++ [x])) := by
 refine ⟨fun j hj => ?_, fun j k hj hk hjk => ?_⟩
 ·by_cases e : j = i
  ·subst e
   rw [upd_same, upd_same, flatW_append, List.length_append]
   exact ho
  ·rw [upd_other e, upd_other e]
   exact own_other (h.own j hj) hg (h.apart i j hi hj (Ne.symm e))
 ·by_cases e : j = i
  ·subst e
   rw [upd_same, upd_other (Ne.symm hjk)]
   exact (h.apart j k hj hk hjk).grow alt (own_blt (h.own k hk))
  ·by_cases e2 : k = i
   ·subst e2
    rw [upd_same, upd_other e]
    exact ((h.apart k j hk hj (Ne.symm hjk)).grow alt (own_blt (h.own j hj))).symm
   ·rw [upd_other e, upd_other e2]
    exact h.apart j k hj hk hjk
end
def sliceEnc (v : Value) : Option (DataW Unit × List MemPlace) :=
 match v with
 | .slice none n c => some (.slice [.lit (.int .i64 n), .lit (.int .i64 c)] [], [])
 | .slice (some ⟨b, off, none⟩) n c => some (.slice [.lit (.int .i64 b), .lit (.int .i64 off), .lit (.int .i64 n), .lit (.int .i64 c)] [], [])
 | _ => none
def nilD : DataW Unit := .slice [.lit (.int .i64 ((0 : Nat) : Int)), .lit (.int .i64 ((0 : Nat) : Int))] []
theorem sliceEnc_nil : sliceEnc (.slice none 0 0) = some (nilD, []) := rfl
theorem sliceEnc_inj {v u : Value} {d : DataW Unit} {ps qs : List MemPlace} (h1 : sliceEnc v = some (d, ps)) (h2 : sliceEnc u = some (d, qs)) : v = u := by
 unfold sliceEnc at h1 h2
 split at h1
 ·split at h2
  ·simp only [Option.some.injEq, Prod.mk.injEq] at h1 h2
   obtain ⟨h1, _⟩ := h1
   obtain ⟨h2, _⟩ := h2
   rw [← h2] at h1
   injection h1 with h1
   simp at h1
   obtain ⟨e1, e2⟩ := h1
   rw [Int.ofNat_inj.1 e1, Int.ofNat_inj.1 e2]
  ·simp only [Option.some.injEq, Prod.mk.injEq] at h1 h2
   obtain ⟨h1, _⟩ := h1
   obtain ⟨h2, _⟩ := h2
   rw [← h2] at h1
   injection h1 with h1
   simp at h1
  ·cases h2
 ·split at h2
  ·simp only [Option.some.injEq, Prod.mk.injEq] at h1 h2
   obtain ⟨h1, _⟩ := h1
   obtain ⟨h2, _⟩ := h2
   rw [← h2] at h1
   injection h1 with h1
   simp at h1
  ·simp only [Option.some.injEq, Prod.mk.injEq] at h1 h2
   obtain ⟨h1, _⟩ := h1
   obtain ⟨h2, _⟩ := h2
   rw [← h2] at h1
   injection h1 with h1
   simp at h1
   obtain ⟨e1, e2, e3, e4⟩ := h1
   rw [Int.ofNat_inj.1 e1, Int.ofNat_inj.1 e2, Int.ofNat_inj.1 e3, Int.ofNat_inj.1 e4]
  ·cases h2
 ·cases h1
theorem sliceEnc_own {w : World} {base sz n : Nat} {E : TypeId} {v : Value} {xs : List Value} (h : w.ownsRow base E sz v n xs) : ∃ d, sliceEnc v = some (d, []) := by
 rcases h.2 with ⟨rfl, _⟩ | ⟨g, cap, cur, rfl, _⟩
 ·exact ⟨_, rfl⟩
 ·exact ⟨_, rfl⟩
theorem u8Keys : Keyed Tryz.prog 5 := int_keyed Tryz.underlying5
theorem zeroWays (w : World) : (zeroValue 189).run Tryz.prog w = .ok (.slice none 0 0) w := by kernel_rfl
theorem u8_wf {c : Nat} (h : c < 256) : (Lit.int .u8 (c : Int)).wf = true := by
 have h1 : IntKind.u8.min = 0 := by decide
 have h2 : IntKind.u8.max = 255 := by decide
 simp [Lit.wf, h1, h2]
 omega
def Mp (w : World) (mb n : Nat) (F : Nat → Value) : Prop :=
 ∃ D : DataW Unit, w.ownsMap Tryz.prog 5 sliceEnc mb n D ∧ IsMap D ∧ ∀ c, c < 256 → sliceEnc (F c) = some (D.atKey (.int .u8 (c : Int)) nilD, [])
section
variable {w w' : World} {mb n : Nat} {F : Nat → Value}
theorem Mp.made (w : World) : Mp (w.alloc (.map #[] 0)) w.heap.size 0 (fun _ => .slice none 0 0) := ⟨.map [], World.ownsMap_made _ _ _ _, isMap_empty, fun _ _ => rfl⟩
theorem Mp.lt (h : Mp w mb n F) : mb < w.heap.size := let ⟨_, h, _⟩ := h; h.lt
theorem Mp.kept (h : Mp w mb n F) {row : Option Nat} (hg : w.grownBy w' row) (hne : some mb ≠ row) : Mp w' mb n F := let ⟨D, h, hc⟩ := h; ⟨D, World.ownsMap.kept h hg hne, hc⟩
theorem Mp.below (h : Mp w mb n F) {B : Nat} (hb : Below B w w') (hB : mb < B) : Mp w' mb n F := by
 obtain ⟨D, ho, hc⟩ := h
 obtain ⟨es, clock, hh, hF, hs, hD⟩ := ho
 exact ⟨D, ⟨es, clock, (hb.block mb hB).trans hh, hF, hs, hD⟩, hc⟩
theorem Mp.alloc (h : Mp w mb n F) (o : Obj) : Mp (w.alloc o) mb n F := let ⟨D, h, hc⟩ := h; ⟨D, h.alloc o, hc⟩
theorem Mp.look (h : Mp w mb n F) {c : Nat} (hc : c < 256) : (Instr.lookup 216 (.map (some mb)) (.int .u8 (c : Int)) false).run Tryz.prog w = .ok (F c) w := by
 obtain ⟨D, ho, _, ha⟩ := h
 obtain ⟨v, ps, hrun, hv⟩ := ho.lookup u8Keys Tryz.underlying216 (zeroWays w) sliceEnc_nil (keyOf_int_mk Tryz.underlying5 (u8_wf hc))
 rw [hrun, sliceEnc_inj hv (ha c hc)]
theorem Mp.put (h : Mp w mb n F) {c : Nat} (hc : c < 256) (hn : n < maxLen) {v : Value} {d : DataW Unit} (hv : sliceEnc v = some (d, [])) :
  ∃ w', (Instr.mapUpdate 216 (.map (some mb)) (.int .u8 (c : Int)) v).run Tryz.prog w = .ok () w' ∧ Mp w' mb (n + 1) (upd F c v) ∧ w.grownBy w' (some mb) := by
 obtain ⟨D, ho, hm, ha⟩ := h
 obtain ⟨w', hrun, r1, r2⟩ := ho.update u8Keys Tryz.underlying216 hn (keyOf_int_mk Tryz.underlying5 (u8_wf hc)) hv
 refine ⟨w', hrun, ⟨_, r1, hm.put _ _, fun j hj => ?_⟩, r2⟩
 by_cases e : j = c
 ·subst e
  rw [upd_same, atKey_put_same hm (by trivial)]
  exact hv
 ·rw [upd_other e, atKey_put_other (by intro x; injection x with _ x; omega)]
  exact ha j hj
set_option maxRecDepth 20000 in
theorem wpList_put {ops : Array Oper} {rest : List Oper} {o : Oper} {a : Act} {Q : Exit → Act → World → Prop}
  (hg : o.guard = none) (m x v : Operand) (hop : o.op = Op.mapUpdate 216 m x v) (hm : a.eval m = .map (some mb)) (hM : Mp w mb n F) (hn : n < maxLen) (c : Nat) (hc : c < 256) (u : Value)
  (hx : a.eval x = .int .u8 (c : Int)) (hv : a.eval v = u) (d : DataW Unit) (hd : sliceEnc u = some (d, []))
  (hK : ∀ w', Mp w' mb (n + 1) (upd F c u) → w.grownBy w' (some mb) → wpList Tryz.prog ops Q rest (a.put o.dst undef) w') : wpList Tryz.prog ops Q (o :: rest) a w := by
 refine wpList_plain hg fun K' hK' => ?_
 obtain ⟨w', hrun, r1, r2⟩ := hM.put hc hn hd
 unfold Oper.wp
 simp [execOp, hop, hm, hx, hv, hrun, Result.andThen]
 exact hK' _ _ (hK w' r1 r2)
end
end Go.Proofs.YtiohmnhbmmhnhaaGreatDoor
