/-
  ChL, Kept, without what the claim does not reach.
-/
import Derived.Test.YtbnafbdhomdcoaaGreatDoorZChF
import Derived.Test.YtbnafbdhomdcoaaGreatDoorZChR
import Derived.Test.YtbnafbdhomdcoaaGreatDoorZm3
import Derived.Below
import Derived.Test.YtbnafbdhomdcoaaGreatDoorZm5
import Derived.Test.YtbnafbdhomdcoaaGreatDoorZm4
namespace Go.Proofs.YtbnafbdhomdcoaaGreatDoor
open Go.RowKit Go.Shelf Go.Lib
theorem box6 {w w1 : World} {cs : Array Value} {t : TypeId} (h : Below (w.heap.size + 1) (w.alloc (.cells cs t)) w1) (k : Nat) : w1.cell? ⟨w.heap.size, k, none⟩ = cs[k]? ∧ w1.frozen? ⟨w.heap.size, k, none⟩ = false := by
 refine ⟨?_, ?_⟩
 ·rw [h.cell (p := ⟨w.heap.size, k, none⟩) (by simp), World.cell?_alloc_new]
 ·rw [h.frozen (p := ⟨w.heap.size, k, none⟩) (by simp)]; simp
theorem own_less {w : World} {b b' sz n : Nat} {E : TypeId} {v : Value} {xs : List Value} (h : w.ownsRow b E sz v n xs) (hb : b' ≤ b) : w.ownsRow b' E sz v n xs := World.ownsRow.mono h hb
theorem box_size {w w1 : World} {o : Obj} (h : Below (w.heap.size + 1) (w.alloc o) w1) : w.heap.size < w1.heap.size := by have := h.size; simp at this; omega
def ctF : Fl := (⟨#[67, 111, 110, 116, 101, 110, 116, 45, 84, 121, 112, 101]⟩, ⟨#[116, 101, 120, 116, 47, 112, 108, 97, 105, 110, 59, 32, 99, 104, 97, 114, 115, 101, 116, 61, 117, 116, 102, 45, 56]⟩)
def wordP (n : Int) : ByteArray := if (reasonP n).size = 0 then (⟨#[83, 116, 97, 116, 117, 115, 32]⟩ : ByteArray) ++ itoaT n else reasonP n
def bodyP (n : Int) : ByteArray := wordP n ++ (⟨#[10]⟩ : ByteArray)
theorem reasonP_size (n : Int) : (reasonP n).size ≤ 64 := by
 by_cases h : ∃ x ∈ tabR, x.1 = n
 ·obtain ⟨x, hx, rfl⟩ := h
  rw [reasonP_in hx]
  have h2 : tabR.all (fun x => decide (x.2.2.size ≤ 64)) = true := by decide +kernel
  exact of_decide_eq_true (List.all_eq_true.1 h2 x hx)
 ·rw [reasonP_out fun x hx e => h ⟨x, hx, e⟩]
  decide
theorem itoaT_size {n : Int} (h0 : -9223372036854775808 ≤ n) (h1 : n ≤ 9223372036854775807) : (itoaT n).size ≤ 32 := by
 show (Lib.itoa n).toArray.size ≤ 32
 rw [List.size_toArray]
 unfold Lib.itoa
 split
 ·rw [List.length_cons, Lib.decDigits_length]
  have := Lib.nDigits_le20 n.natAbs (by omega)
  omega
 ·rw [Lib.decDigits_length]
  have := Lib.nDigits_le20 n.toNat (by omega)
  omega
def GivesR (T : TypeId) (w : World) (n : Int) (fs : List Fl) (b : ByteArray) (e : Ending) (w' : World) : Prop :=
 ∃ A c, e = .returned (.agg #[.int .i64 n, .string ⟨#[]⟩, .slice A fs.length c, .string b]) ∧ w'.ownsRow w.heap.size T 2 (.slice A fs.length c) fs.length (flat fs) ∧ Below w.heap.size w w'
set_option maxRecDepth 20000 in
set_option maxHeartbeats 4000000 in
theorem Plain_any (n : Int) (A : Option Addr) (c : Nat) (l : List Fl) (w : World) (hr : Row w A (flat l)) (hl : l.length ≤ 4398046511102) (h0 : -9223372036854775808 ≤ n) (h1 : n ≤ 9223372036854775807) (hg : GlobC w) :
  Calls Tryz.prog 23 #[.int .i64 n, .slice A l.length c] w (GivesR 59 w n (ctF :: l) (bodyP n)) := by
 obtain ⟨i0, hi0, hz0, hz1, hz2⟩ := info_parts info_field
 have HR := Lib.hid (fun w => show Calls Tryz.prog 38 #[.int .i64 n] w fun e w' => e = .returned (.string (reasonP n)) ∧ Below w.heap.size w w' from (message_Reason_any n w).mono fun e w' h => ⟨h.1, by rw [← h.2]; exact Below.refl _ _⟩)
 have HD := Lib.hid (fun (w1 : World) (hb : Below w.heap.size w w1) => Digits_any n w1 h0 h1 (hg.beyond hb))
 have hz := reasonP_size n
 have hzi := itoaT_size h0 h1
 have HB := Lib.hid (show bodyP n = wordP n ++ (⟨#[10]⟩ : ByteArray) from rfl)
 have hfl : flat (ctF :: l) = flat [ctF] ++ flat l := flat_append [ctF] l
 have HFL := Lib.hid hfl
 clear hfl
 generalize bodyP n = bd at *
 by_cases hq : (reasonP n).size = 0
 ·have he : (reasonP n).toList.isEmpty = true := by rw [empty_eq]; exact decide_eq_true hq
  have HW := Lib.hid (show wordP n = (⟨#[83, 116, 97, 116, 117, 115, 32]⟩ : ByteArray) ++ itoaT n by unfold wordP; rw [if_pos hq])
  generalize wordP n = wd at *
  generalize itoaT n = it at *
  generalize reasonP n = rs at *
  clear hq
  go_enter Tryz.func23, Tryz.ntmps23
  go_wp2_with fail
  refine (HR.out _).mono ?_
  rintro e w1 ⟨rfl, b1⟩
  have b1' : Below (w.heap.size + 1) (w.alloc (.cells #[.int .i64 0, .string ⟨#[]⟩, .slice none 0 0, .string ⟨#[]⟩] 29)) w1 := by simpa using b1
  clear b1
  go_wp2_with fail
  refine (HD.out w1 (below_box b1')).mono ?_
  rintro e w2 ⟨rfl, b2⟩
  have b2' := b1'.trans (b2.mono (by have := b1'.size; simpa using this))
  clear b2 b1'
  have hsz := box_size b2'
  have hr2 := hr.below (below_box b2')
  have hown0 : (w2.alloc (.cells #[.string ctF.1, .string ctF.2] 59)).ownsRow (w.heap.size + 1) 59 2 (.slice (some ⟨w2.heap.size, 0, none⟩) 1 1) 1 (flat [ctF]) := own_less (World.ownsRow_lit w2 #[.string ctF.1, .string ctF.2] 1 (Nat.le_refl _) (by unfold maxLen; omega) rfl) (by omega)
  go_wp2_with (at_builtin; refine wpList_append_any _ rfl _ _ 25 rfl (w.heap.size + 1) 59 i0 (.agg #[.string ⟨#[]⟩, .string ⟨#[]⟩]) 2 32 Tryz.underlying25 hi0 hz0 hz1 hz2 rfl (by decide) _ 1 (flat [ctF]) rfl hown0 _ A l.length c (flat l) rfl (reads_of_row (hr2.alloc _) (flat_length l) (by decide)) ?c1 ?c2 ?c3 ?c4 ?c5)
  case c1 => exact flat_oneCell l
  case c2 => unfold maxLen; omega
  case c3 => omega
  case c4 => simp; omega
  case c5 =>
   intro v' w3 hown hg _
   have hb3 := (b2'.alloc (by omega) (.cells #[.string ctF.1, .string ctF.2] 59)).grown hg (by simp; omega) (fun k hk => by simp [Value.ownBlock] at hk; omega)
   have hov : w3.ownsRow (w.heap.size + 1) 59 2 v' (ctF :: l).length (flat (ctF :: l)) := by rw [HFL.out, List.length_cons, Nat.add_comm l.length 1]; exact hown
   clear hg hown hown0 b2'
   obtain ⟨A', c', rfl⟩ := own_slice hov
   obtain ⟨c0, f0⟩ := box6 hb3 0
   obtain ⟨c1, f1⟩ := box6 hb3 1
   obtain ⟨c2, f2⟩ := box6 hb3 2
   obtain ⟨c3, f3⟩ := box6 hb3 3
   have hsz3 := box_size hb3
   have hbw := below_box hb3
   have HOV := Lib.hid hov
   have HBW := Lib.hid hbw
   clear hb3 hov hbw
   go_wp2
   exact bodyPost_ret (v := .agg #[.int .i64 n, .string ⟨#[]⟩, .slice A' (l.length + 1) c', .string (((⟨#[83, 116, 97, 116, 117, 115, 32]⟩ : ByteArray) ++ it) ++ (⟨#[10]⟩ : ByteArray))]) (by simp [results, Tryz.results23, go_sem, c0, c1, c2, c3]) rfl ⟨A', c', by rw [HB.out, HW.out]; rfl, own_less (ownsRow_setCell_below (ownsRow_setCell_below (ownsRow_setCell_below (ownsRow_setCell_below HOV.out (by simp) _) (by simp) _) (by simp) _) (by simp) _) (by omega), by (repeat (first | (with_reducible refine Below.setCell ?_ (by simp) _))); exact HBW.out⟩
 ·have he : (reasonP n).toList.isEmpty = false := by rw [empty_eq]; exact decide_eq_false hq
  have HW := Lib.hid (show wordP n = reasonP n by unfold wordP; rw [if_neg hq])
  generalize wordP n = wd at *
  generalize itoaT n = it at *
  generalize reasonP n = rs at *
  clear hq
  go_enter Tryz.func23, Tryz.ntmps23
  go_wp2_with fail
  refine (HR.out _).mono ?_
  rintro e w2 ⟨rfl, b1⟩
  have b2' : Below (w.heap.size + 1) (w.alloc (.cells #[.int .i64 0, .string ⟨#[]⟩, .slice none 0 0, .string ⟨#[]⟩] 29)) w2 := by simpa using b1
  clear b1
  have hsz := box_size b2'
  have hr2 := hr.below (below_box b2')
  have hown0 : (w2.alloc (.cells #[.string ctF.1, .string ctF.2] 59)).ownsRow (w.heap.size + 1) 59 2 (.slice (some ⟨w2.heap.size, 0, none⟩) 1 1) 1 (flat [ctF]) := own_less (World.ownsRow_lit w2 #[.string ctF.1, .string ctF.2] 1 (Nat.le_refl _) (by unfold maxLen; omega) rfl) (by omega)
  go_wp2_with (at_builtin; refine wpList_append_any _ rfl _ _ 25 rfl (w.heap.size + 1) 59 i0 (.agg #[.string ⟨#[]⟩, .string ⟨#[]⟩]) 2 32 Tryz.underlying25 hi0 hz0 hz1 hz2 rfl (by decide) _ 1 (flat [ctF]) rfl hown0 _ A l.length c (flat l) rfl (reads_of_row (hr2.alloc _) (flat_length l) (by decide)) ?c1 ?c2 ?c3 ?c4 ?c5)
  case c1 => exact flat_oneCell l
  case c2 => unfold maxLen; omega
  case c3 => omega
  case c4 => simp; omega
  case c5 =>
   intro v' w3 hown hg _
   have hb3 := (b2'.alloc (by omega) (.cells #[.string ctF.1, .string ctF.2] 59)).grown hg (by simp; omega) (fun k hk => by simp [Value.ownBlock] at hk; omega)
   have hov : w3.ownsRow (w.heap.size + 1) 59 2 v' (ctF :: l).length (flat (ctF :: l)) := by rw [HFL.out, List.length_cons, Nat.add_comm l.length 1]; exact hown
   clear hg hown hown0 b2'
   obtain ⟨A', c', rfl⟩ := own_slice hov
   obtain ⟨c0, f0⟩ := box6 hb3 0
   obtain ⟨c1, f1⟩ := box6 hb3 1
   obtain ⟨c2, f2⟩ := box6 hb3 2
   obtain ⟨c3, f3⟩ := box6 hb3 3
   have hsz3 := box_size hb3
   have hbw := below_box hb3
   have HOV := Lib.hid hov
   have HBW := Lib.hid hbw
   clear hb3 hov hbw
   go_wp2
   exact bodyPost_ret (v := .agg #[.int .i64 n, .string ⟨#[]⟩, .slice A' (l.length + 1) c', .string (rs ++ (⟨#[10]⟩ : ByteArray))]) (by simp [results, Tryz.results23, go_sem, c0, c1, c2, c3]) rfl ⟨A', c', by rw [HB.out, HW.out]; rfl, own_less (ownsRow_setCell_below (ownsRow_setCell_below (ownsRow_setCell_below (ownsRow_setCell_below HOV.out (by simp) _) (by simp) _) (by simp) _) (by simp) _) (by omega), by (repeat (first | (with_reducible refine Below.setCell ?_ (by simp) _))); exact HBW.out⟩
end Go.Proofs.YtbnafbdhomdcoaaGreatDoor
namespace Go.Proofs.YtbnafbdhomdcoaaGreatDoor
open Go.RowKit Go.Shelf Go.Lib
theorem filter_take {l : List Fl} {k : Nat} {p : Fl} (P : Fl → Bool) (h : l[k]? = some p) : (l.take (k + 1)).filter P = if P p = true then (l.take k).filter P ++ [p] else (l.take k).filter P := by
 rw [take_snoc h, List.filter_append]
 cases e : P p <;> simp [e]
set_option maxRecDepth 20000 in
set_option maxHeartbeats 1000000 in
theorem kept_any (A : Option Addr) (c : Nat) (l : List Fl) (F : FuncId) (cap : Value) (P : Fl → Bool) (w : World) (hr : Row w A (flat l)) (hl : l.length ≤ 4398046511104)
  (hcf : ∀ args w, (callFunc F args).run Tryz.prog w = .ok (.enter F args) w)
  (hF : ∀ W, Below w.heap.size w W → ∀ x y, (x, y) ∈ l → Calls Tryz.prog F #[.agg #[.string x, .string y], cap] W fun e W' => e = .returned (.bool (P (x, y))) ∧ Below W.heap.size W W') :
  Calls Tryz.prog 138 #[.slice A l.length c, .func (.func F) #[] #[cap]] w (GivesFl 59 w (l.filter P)) := by
 obtain ⟨i0, hi0, hz0, hz1, hz2⟩ := info_parts info_field
 have HF := Lib.hid hF
 clear hF
 go_enter Tryz.func138, Tryz.ntmps138
 go_wp2
 go_loopw [5, 10] (fun v i wr => ∃ k : Nat, k ≤ l.length ∧ i = .int .i64 k ∧ wr.ownsRow w.heap.size 59 2 v ((l.take k).filter P).length (flat ((l.take k).filter P)) ∧ Below w.heap.size w wr) (fun _ i _ => l.length - (RowKit.intOf i).toNat)
 case atStart => exact ⟨0, by omega, rfl, World.ownsRow_nil _ _ _ _, Below.refl _ _⟩
 case round =>
  obtain ⟨k, hk, rfl, hown, hbw⟩ := hrel
  by_cases hlt : k < l.length
  ·obtain ⟨⟨x, y⟩, hxy⟩ := some_of_lt hlt
   obtain ⟨b, off, rfl, hb, h0, h1⟩ := (hr.below hbw).pair hxy
   have HC := Lib.hid (HF.out (wr.alloc (.cells #[.string x, .string y] 59)) (hbw.alloc hbw.size _) x y (List.mem_of_getElem? hxy))
   have HS := Lib.hid (filter_take P hxy)
   have hlen : ((l.take k).filter P).length ≤ k := Nat.le_trans (List.length_filter_le _ _) (List.length_take_le _ _)
   clear hxy
   go_wp2_with fail
   refine HC.out.mono ?_
   rintro e w1 ⟨rfl, hb1⟩
   have hb1' : Below (wr.heap.size + 1) (wr.alloc (.cells #[.string x, .string y] 59)) w1 := by simpa using hb1
   obtain ⟨⟨hc0, hc1⟩, _, hsz⟩ := box2 hb1'
   have hbw1 : Below w.heap.size w w1 := hbw.trans ((below_box hb1').mono hbw.size)
   have hown1 := own_below (hown.alloc _) hb1
   clear hb1 hb1' h0 h1 hown HC
   cases hp : P (x, y)
   ·go_wp2
    go_roundw
    case rel => exact ⟨k + 1, by omega, by go_num, by rw [HS.out, if_neg (by rw [hp]; simp)]; exact hown1, hbw1⟩
    case measure => simp [RowKit.intOf]; omega
   ·go_wp2_with (at_builtin; refine wpList_append_own _ rfl _ _ 25 rfl w.heap.size 59 i0 (.agg #[.string ⟨#[]⟩, .string ⟨#[]⟩]) 2 32 Tryz.underlying25 hi0 hz0 hz1 hz2 rfl (by decide) _ _ _ rfl (hown1.alloc _) ⟨w1.heap.size, 0, none⟩ 1 1 [.string x, .string y] rfl rfl ?c0 ?c1 ?c2 ?c3 ?c4 ?c5)
    case c0 => exact cells_new2 _ x y _ rfl
    case c1 => exact flat_oneCell [(x, y)]
    case c2 => unfold maxLen; omega
    case c3 => omega
    case c4 => simp; have := hbw1.size; omega
    case c5 =>
     intro v' w2 hown2 hg2 _
     go_wp2
     go_roundw
     case rel => exact ⟨k + 1, by omega, by go_num, by rw [HS.out, if_pos hp, flat_append, List.length_append]; exact hown2, (hbw1.alloc hbw1.size _).grown hg2 (by simp; have := hbw1.size; omega) (own_lt hown1)⟩
     case measure => simp [RowKit.intOf]; omega
  ·obtain rfl : k = l.length := by omega
   rw [List.take_length] at hown
   obtain ⟨A', c', rfl⟩ := own_slice hown
   go_wp2
   go_ret
   exact ⟨A', c', rfl, hown, hbw⟩
def removeL (l : List Fl) (name : ByteArray) : List Fl := l.filter fun p => !alike p.1 name
set_option maxRecDepth 20000 in
theorem Remove1_any (x y name : ByteArray) (nb : Nat) (w : World) (hx : x.size ≤ maxLen) (hn : name.size ≤ maxLen) (hc : w.cell? ⟨nb, 0, none⟩ = some (.string name)) (hlt : nb < w.heap.size) :
  Calls Tryz.prog 139 #[.agg #[.string x, .string y], .pointer (some ⟨nb, 0, none⟩)] w fun e w' => e = .returned (.bool (!alike x name)) ∧ Below w.heap.size w w' := by
 go_enter Tryz.func139, Tryz.ntmps139
 go_wp2_with fail
 refine (Same_any x name _ hx hn).mono ?_
 rintro e w1 ⟨rfl, hb⟩
 have hbw := below_box (by simpa using hb)
 go_wp2
 go_ret
 exact ⟨rfl, hbw⟩
set_option maxRecDepth 20000 in
theorem Remove_any (A : Option Addr) (c : Nat) (l : List Fl) (name : ByteArray) (w : World) (hr : Row w A (flat l)) (hl : l.length ≤ 4398046511104) (hw : Wide l) (hn : name.size ≤ maxLen) :
  Calls Tryz.prog 94 #[.slice A l.length c, .string name] w (GivesFl 59 w (removeL l name)) := by
 have hmf : ∀ (fn : Fn) (first cap : Array Value) (w : World), (Instr.makeFunc fn first cap).run Tryz.prog w = .ok (.func fn first cap) w := fun _ _ _ _ => rfl
 have hK := kept_any A c l 139 (.pointer (some ⟨w.heap.size, 0, none⟩)) (fun p => !alike p.1 name) (w.alloc (.cells #[.string name] 9)) (hr.alloc _) hl (fun args w => Tryz.call139 args w) (fun W hW x y hxy => Remove1_any x y name w.heap.size W ((hw _ hxy).1) hn (by
  rw [hW.cell (p := ⟨w.heap.size, 0, none⟩) (by simp)]
  simp) (by have := hW.size; simp at this; omega))
 have HK := Lib.hid hK
 clear hK
 go_enter Tryz.func94, Tryz.ntmps94
 go_wp2_with fail
 refine HK.out.mono ?_
 rintro e w1 ⟨A1, c1, rfl, hown, hb⟩
 have hbw := below_box (by simpa using hb)
 go_wp2
 go_ret
 exact ⟨A1, c1, rfl, hown.mono (by simp), hbw⟩
set_option maxRecDepth 20000 in
theorem Clone_any (A : Option Addr) (c : Nat) (l : List Fl) (w : World) (hr : Row w A (flat l)) (hl : l.length ≤ 4398046511104) :
  Calls Tryz.prog 137 #[.slice A l.length c] w (GivesFl 59 w l) := by
 obtain ⟨i0, hi0, hz0, hz1, hz2⟩ := info_parts info_field
 have heq := fun w => Lib.run_eql_slice_nil (P := Tryz.prog) w 25 59 A l.length c 0 0 Tryz.underlying25
 cases A with
 | none =>
  have hnil : l = [] := by
   cases l with
   | nil => rfl
   | cons p l =>
    obtain ⟨b, off, h, _⟩ := hr (by rw [flat_length]; simp)
    cases h
  subst hnil
  simp only [List.length_nil] at heq
  go_enter Tryz.func137, Tryz.ntmps137
  go_wp2
  go_ret
  exact ⟨none, 0, rfl, World.ownsRow_nil _ _ _ _, Below.refl _ _⟩
 | some a =>
  go_enter Tryz.func137, Tryz.ntmps137
  go_wp2_with (at_builtin; refine wpList_append_any _ rfl (.tmp 5) (.tmp 6) 25 rfl w.heap.size 59 i0 (.agg #[.string ⟨#[]⟩, .string ⟨#[]⟩]) 2 32 Tryz.underlying25 hi0 hz0 hz1 hz2 rfl (by decide) _ 0 [] rfl (own_none w) _ (some a) l.length c (flat l) rfl (reads_of_row (hr.alloc _) (flat_length l) (by decide)) ?c1 ?c2 ?c3 ?c4 ?c5)
  case c1 => exact flat_oneCell l
  case c2 => unfold maxLen; omega
  case c3 => omega
  case c4 => simp
  case c5 =>
   intro v' w' hown hg hat
   have hb : Below w.heap.size w w' := ((Below.refl _ w).alloc (Nat.le_refl _) _).grown hg (by simp) (fun k hk => by simp [Value.ownBlock] at hk; omega)
   have hown' : w'.ownsRow w.heap.size 59 2 v' l.length (flat l) := by simpa using hown
   clear hg hat hown
   obtain ⟨A', c', rfl⟩ := own_slice hown'
   go_wp2
   go_ret
   exact ⟨A', c', rfl, hown', hb⟩
end Go.Proofs.YtbnafbdhomdcoaaGreatDoor
