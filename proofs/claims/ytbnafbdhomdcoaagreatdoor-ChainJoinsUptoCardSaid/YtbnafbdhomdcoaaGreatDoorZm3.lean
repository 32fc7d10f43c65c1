/-
  Oct, Sli, Pline, without what the claim does not reach.
-/
import Derived.Test.YtbnafbdhomdcoaaGreatDoorZMem
import Derived.Test.YtbnafbdhomdcoaaGreatDoorZShelf
import Derived.WalkLawsBesides
import Derived.WalkSpells
import Derived.Outline
import Derived.Lib.Hide
import Derived.Test.YtbnafbdhomdcoaaGreatDoorZPlain
import Derived.OwnWalk
import Derived.Deep.AppendLies
import Derived.Deep.Onto
import Derived.Deep.DeepFit
namespace Go.Proofs.YtbnafbdhomdcoaaGreatDoor
open Go.RowKit Go.Shelf Go.Lib
structure Glob (w : World) : Prop where
 size : 3 ≤ w.heap.size
 cell : ∀ k : Nat, k < 4 → w.cell? ⟨0, k, none⟩ = some (.int .u32 (signTab.getD k 0))
 maxl : ∃ m, w.cell? ⟨1, 0, none⟩ = some (.int .i64 m)
theorem Glob.below {B : Nat} {w w' : World} (h : Glob w) (hb : Below B w w') (hB : 3 ≤ B) : Glob w' :=
 ⟨Nat.le_trans h.size hb.size, fun k hk => by rw [hb.cell (p := ⟨0, k, none⟩) (show 0 < B by omega)]; exact h.cell k hk, by rw [hb.cell (p := ⟨1, 0, none⟩) (show 1 < B by omega)]; exact h.maxl⟩
theorem Glob.beyond {w w' : World} (h : Glob w) (hb : Below w.heap.size w w') : Glob w' := h.below hb h.size
theorem ret_bool {a b : Bool} (h : a = b) : Ending.returned (.bool a) = .returned (.bool b) := by rw [h]
theorem ret_int {k : IntKind} {a b : Int} (h : a = b) : Ending.returned (.int k a) = .returned (.int k b) := by rw [h]
theorem ret_str {a b : ByteArray} (h : a = b) : Ending.returned (.string a) = .returned (.string b) := by rw [h]
theorem isSign_big (c : Int) (w : World) (h0 : 128 ≤ c) :
  Calls Tryz.prog 90 #[.int .u8 c] w fun e w' => e = .returned (.bool false) ∧ w = w' := by
 have hd : decide (c < 128) = false := by simpa using h0
 go_enter Tryz.func90, Tryz.ntmps90
 go_wp2
 go_ret
 exact ⟨rfl, rfl⟩
theorem isSign_small (c v : Int) (w : World) (h0 : 0 ≤ c) (h1 : c < 128) (hv : w.cell? ⟨0, (c / 32).toNat, none⟩ = some (.int .u32 v)) :
  Calls Tryz.prog 90 #[.int .u8 c] w fun e w' => e = .returned (.bool (bits BinOp.and IntKind.u32 (v / 2 ^ (c % 32).toNat) 1 == 1)) ∧ w = w' := by
 go_enter Tryz.func90, Tryz.ntmps90
 go_wp2
 go_ret
 exact ⟨rfl, rfl⟩
theorem isSign_any (c : Int) (w : World) (h0 : 0 ≤ c) (hg : Glob w) :
  Calls Tryz.prog 90 #[.int .u8 c] w fun e w' => e = .returned (.bool (sign c)) ∧ w = w' := by
 by_cases h : c < 128
 ·rw [← sign_tab c h0 h]
  exact isSign_small c _ w h0 h (hg.cell _ (by omega))
 ·rw [sign_big c (by omega)]
  exact isSign_big c w (by omega)
theorem IsToken_any (s : ByteArray) (w : World) (hs : s.size ≤ maxLen) (hg : Glob w) :
  Calls Tryz.prog 54 #[.string s] w fun e w' => e = .returned (.bool (isTok s)) ∧ w = w' := by
 unfold maxLen at hs
 go_enter Tryz.func54, Tryz.ntmps54
 go_wp2
 go_loop [6] (fun i => ∃ k : Nat, k ≤ s.size ∧ i = .int .i64 k ∧ AllTo sign s k) (fun i => s.size - (RowKit.intOf i).toNat)
 case atStart => exact ⟨0, by omega, rfl, AllTo.zero _ _⟩
 case round =>
  obtain ⟨k, hk, rfl, hall⟩ := hrel
  by_cases hlt : k < s.size
  ·have hb := @bt_eq s k hlt
   go_wp2_with (go_at_call 90; refine (isSign_any _ _ (by omega) hg).mono ?_; rintro e w' ⟨rfl, rfl⟩)
   ·have h : (!sign (bt s k)) = true := by assumption
    go_ret
    exact ⟨ret_bool (by simp [isTok, allB_false hlt (by simpa using h)]), rfl⟩
   ·have h : (!sign (bt s k)) = false := by assumption
    go_round
    case rel => exact ⟨k + 1, by omega, by go_num, hall.succ (by simpa using h)⟩
    case measure => simp [RowKit.intOf]; omega
  ·obtain rfl : k = s.size := by omega
   go_wp2
   go_ret
   exact ⟨ret_bool (by rw [isTok, allB_true hall, empty_eq]; simp), rfl⟩
theorem bytes_conv (w : World) (s : ByteArray) : (convert 9 80 (.string s)).run Tryz.prog w = .ok (.slice (some ⟨w.heap.size, 0, none⟩) s.size (grownCap w s.size 0 5)) (Lib.bytesWorld w 5 s) :=
 Lib.run_convert_string_bytes w _ _ _ s Tryz.underlying9 Tryz.underlying80 Tryz.underlying5
set_option maxRecDepth 20000 in
theorem Lower_any (s : ByteArray) (w : World) (hs : s.size ≤ maxLen) :
  Calls Tryz.prog 157 #[.string s] w fun e w' => e = .returned (.string (lower s)) ∧ Below w.heap.size w w' := by
 unfold maxLen at hs
 have hcv := bytes_conv w s
 have hbw := Lib.bytesWorld_size w 5 s
 have hba := BytesAt.of_conv w 5 s
 have hbl := below_conv w 5 s
 generalize Lib.bytesWorld w 5 s = w1 at hcv hbw hba hbl
 generalize grownCap w s.size 0 5 = cap at hcv
 have HW := Lib.hid hbw
 clear hbw
 go_enter Tryz.func157, Tryz.ntmps157
 go_wp2
 go_loopw [10] (fun i wr => ∃ k : Nat, k ≤ s.size ∧ i = .int .i64 k ∧ BytesAt wr w.heap.size (mapTo lowB s.data.toList k) ∧ Below w.heap.size w wr ∧ w.heap.size < wr.heap.size) (fun i _ => s.size - (RowKit.intOf i).toNat)
 case atStart => exact ⟨0, by omega, rfl, by rw [mapTo_zero]; exact hba, hbl, by have := HW.out; omega⟩
 case round =>
  obtain ⟨k, hk, rfl, hb, hbl', hlt'⟩ := hrel
  by_cases hlt : k < s.size
  ·have hkl : k < s.data.toList.length := by rw [size_eq]; exact hlt
   have hc := hb.cell k (by rw [mapTo_length]; exact hkl)
   have hf := hb.free k (by rw [mapTo_length]; exact hkl)
   rw [mapTo_getD lowB _ _ hkl] at hc
   change wr.cell? _ = some (.int .u8 (bt s k)) at hc
   by_cases hu : 65 ≤ bt s k ∧ bt s k ≤ 90
   ·obtain ⟨hu1, hu2⟩ := hu
    have h1 := bt_lt s k
    go_wp2
    go_roundw
    case rel => exact ⟨k + 1, by omega, by go_num, by rw [mapTo_succ lowB _ _ hkl]; exact hb.set (by rw [mapTo_length]; exact hkl) _ _ (by unfold bt; rw [lowB_in ⟨hu1, hu2⟩]; omega), hbl'.setCell (Nat.le_refl _) _, by simpa using hlt'⟩
    case measure => simp [RowKit.intOf]; omega
   ·have hsame := mapTo_same lowB _ _ hkl (lowB_out hu)
    have HS := Lib.hid hsame
    clear hsame
    have hu' : bt s k < 65 ∨ 90 < bt s k := by omega
    clear hu
    rcases hu' with hu | hu
    all_goals
     go_wp2
     go_roundw
     case rel => exact ⟨k + 1, by omega, by go_num, by rw [HS.out]; exact hb, hbl', hlt'⟩
     case measure => simp [RowKit.intOf]; omega
  ·obtain rfl : k = s.size := by omega
   have hcv := hb.conv Tryz.underlying80 Tryz.underlying5 Tryz.underlying9 cap
   rw [mapTo_length, size_eq, ← size_eq s, mapTo_all, size_eq] at hcv
   go_wp2
   go_ret
   exact ⟨rfl, hbl'⟩
theorem isFieldByte_any (c : Int) (w : World) :
  Calls Tryz.prog 135 #[.int .u8 c] w fun e w' => e = .returned (.bool (inside c)) ∧ w = w' := by
 have hs : c = 9 ∨ (c < 32 ∧ (c == 9) = false) ∨ c = 127 ∨ (32 ≤ c ∧ (c == 9) = false ∧ (c != 127) = true) := by simp only [beq_eq_false_iff_ne, bne_iff_ne, ne_eq]; omega
 rcases hs with rfl | ⟨h1, h2⟩ | rfl | ⟨h1, h2, h3⟩
 all_goals
  go_enter Tryz.func135, Tryz.ntmps135
  go_wp2
  go_ret
  first | exact ⟨rfl, rfl⟩ | exact ⟨ret_bool (inside_low h1 h2).symm, rfl⟩ | exact ⟨ret_bool (inside_high h1 h3).symm, rfl⟩
set_option maxRecDepth 20000 in
theorem IsField_any (s : ByteArray) (w : World) (hs : s.size ≤ maxLen) :
  Calls Tryz.prog 91 #[.string s] w fun e w' => e = .returned (.bool (isFld s)) ∧ w = w' := by
 unfold maxLen at hs
 go_enter Tryz.func91, Tryz.ntmps91
 go_wp2
 go_loop [6] (fun i => ∃ k : Nat, k ≤ s.size ∧ i = .int .i64 k ∧ AllTo inside s k) (fun i => s.size - (RowKit.intOf i).toNat)
 case atStart => exact ⟨0, by omega, rfl, AllTo.zero _ _⟩
 case round =>
  obtain ⟨k, hk, rfl, hall⟩ := hrel
  by_cases hlt : k < s.size
  ·have hb := @bt_eq s k hlt
   go_wp2_with (go_at_call 135; refine (isFieldByte_any _ _).mono ?_; rintro e w' ⟨rfl, rfl⟩)
   ·have h : (!inside (bt s k)) = true := by assumption
    go_ret
    exact ⟨ret_bool (by rw [isFld, allB_false hlt (by simpa using h)]), rfl⟩
   ·have h : (!inside (bt s k)) = false := by assumption
    go_round
    case rel => exact ⟨k + 1, by omega, by go_num, hall.succ (by simpa using h)⟩
    case measure => simp [RowKit.intOf]; omega
  ·obtain rfl : k = s.size := by omega
   go_wp2
   go_ret
   exact ⟨ret_bool (by rw [isFld, allB_true hall]), rfl⟩
theorem Trim_blanks (s : ByteArray) (w : World) (hs : s.size ≤ 9223372036854775807) :
  Calls Tryz.prog 136 #[.string s, .string ⟨#[32, 9]⟩] w fun e w' => e = .returned (.string (trim s)) ∧ Below w.heap.size w w' := Any.strings_Trim_laid Tryz.lays160 (by kernel_rfl) s ⟨#[32, 9]⟩ w hs (by decide) (ascii_of_all (by decide))
theorem Trim_any (s : ByteArray) (w : World) (hs : s.size ≤ maxLen) :
  Calls Tryz.prog 92 #[.string s] w fun e w' => e = .returned (.string (trim s)) ∧ Below w.heap.size w w' := by
 unfold maxLen at hs
 go_enter Tryz.func92, Tryz.ntmps92
 go_wp2_with (go_at_call 136; refine (Trim_blanks _ _ (by omega)).mono ?_; rintro e w' ⟨rfl, hb⟩)
 go_ret
 exact ⟨rfl, hb⟩
theorem IndexByte_any (s : ByteArray) (c : Int) (w : World) (h0 : 0 ≤ c) (h1 : c < 256) :
  Calls Tryz.prog 101 #[.string s, .int .u8 c] w fun e w' => e = .returned (.int .i64 (findB s c)) ∧ w = w' :=
 (Tryz.strings_IndexByte s c w).mono fun _ _ ⟨he, hw⟩ => ⟨by rw [he, indexByte_eq s c h0 h1], hw.symm⟩
theorem Same_any (a b : ByteArray) (w : World) (ha : a.size ≤ maxLen) (hb : b.size ≤ maxLen) :
  Calls Tryz.prog 105 #[.string a, .string b] w fun e w' => e = .returned (.bool (alike a b)) ∧ Below w.heap.size w w' := by
 go_enter Tryz.func105, Tryz.ntmps105
 go_wp2_with fail
 refine (Lower_any a _ ha).mono ?_
 rintro e w1 ⟨rfl, hb1⟩
 go_wp2_with fail
 refine (Lower_any b _ hb).mono ?_
 rintro e w2 ⟨rfl, hb2⟩
 go_wp2
 go_ret
 exact ⟨ret_bool (by rw [alike, ← eq_str]), hb1.trans (hb2.mono hb1.size)⟩
end Go.Proofs.YtbnafbdhomdcoaaGreatDoor
namespace Go.Proofs.YtbnafbdhomdcoaaGreatDoor
open Go.RowKit
def Row (w : World) (A : Option Addr) (xs : List Value) : Prop := 0 < xs.length → ∃ b off, A = some ⟨b, off, none⟩ ∧ b < w.heap.size ∧ ∀ j v, xs[j]? = some v → w.cell? ⟨b, off + j, none⟩ = some v
section
variable {w w' : World} {A : Option Addr} {xs : List Value}
theorem Row.nil (w : World) (A : Option Addr) : Row w A [] := fun h => by simp at h
theorem Row.keep (h : Row w A xs) (hs : w.heap.size ≤ w'.heap.size) (hk : ∀ p : Addr, p.block < w.heap.size → w'.cell? p = w.cell? p) : Row w' A xs := fun hn => by
 obtain ⟨b, off, e, hb, hc⟩ := h hn
 exact ⟨b, off, e, by omega, fun j v hv => (hk ⟨b, off + j, none⟩ hb).trans (hc j v hv)⟩
theorem Row.below (h : Row w A xs) (hb : Below w.heap.size w w') : Row w' A xs := h.keep hb.size fun _ hp => hb.cell hp
theorem Row.drew (h : Row w A xs) : Row w.drew A xs := h
theorem Row.drewN (h : Row w A xs) (n : Nat) : Row (w.drewN n) A xs := h
theorem Row.alloc (h : Row w A xs) (o : Obj) : Row (w.alloc o) A xs := h.keep (by simp) fun p hp => World.cell?_alloc_lt w o p hp
theorem Row.at_ (h : Row w A xs) {j : Nat} {v : Value} (hv : xs[j]? = some v) : ∃ b off, A = some ⟨b, off, none⟩ ∧ b < w.heap.size ∧ ∀ i u, xs[i]? = some u → w.cell? ⟨b, off + i, none⟩ = some u :=
 h (by
  have := (List.getElem?_eq_some_iff.1 hv).1
  omega)
end
def flat (l : List (ByteArray × ByteArray)) : List Value := l.flatMap fun p => [.string p.1, .string p.2]
theorem flat_length (l : List (ByteArray × ByteArray)) : (flat l).length = l.length * 2 := by
 induction l with
 | nil => rfl
 | cons p l ih =>
  show (flat l).length + 2 = _
  rw [ih, List.length_cons]
  omega
theorem flat_append (l m : List (ByteArray × ByteArray)) : flat (l ++ m) = flat l ++ flat m := by simp [flat]
theorem flat_get {l : List (ByteArray × ByteArray)} {k : Nat} {x y : ByteArray} (h : l[k]? = some (x, y)) : (flat l)[k * 2]? = some (.string x) ∧ (flat l)[k * 2 + 1]? = some (.string y) := by
 induction l generalizing k with
 | nil => simp at h
 | cons p l ih =>
  cases k with
  | zero =>
   simp at h
   subst h
   exact ⟨rfl, rfl⟩
  | succ k =>
   have := ih (k := k) (by simpa using h)
   have e : flat (p :: l) = .string p.1 :: .string p.2 :: flat l := rfl
   rw [e, show (k + 1) * 2 = k * 2 + 1 + 1 from by omega, show k * 2 + 1 + 1 + 1 = (k * 2 + 1) + 1 + 1 from rfl]
   simpa using this
theorem flat_inv {l : List (ByteArray × ByteArray)} {j : Nat} {v : Value} (h : (flat l)[j]? = some v) : ∃ (i : Nat) (x y : ByteArray), l[i]? = some (x, y) ∧ ((j = i * 2 ∧ v = .string x) ∨ (j = i * 2 + 1 ∧ v = .string y)) := by
 induction l generalizing j with
 | nil => simp [flat] at h
 | cons p l ih =>
  obtain ⟨x, y⟩ := p
  have e : flat ((x, y) :: l) = .string x :: .string y :: flat l := rfl
  rw [e] at h
  match j with
  | 0 => exact ⟨0, x, y, rfl, .inl ⟨rfl, by simpa using h.symm⟩⟩
  | 1 => exact ⟨0, x, y, rfl, .inr ⟨rfl, by simpa using h.symm⟩⟩
  | j + 2 =>
   obtain ⟨i, x', y', hi, hj⟩ := ih (j := j) (by simpa using h)
   refine ⟨i + 1, x', y', by simpa using hi, ?_⟩
   rcases hj with ⟨h1, h2⟩ | ⟨h1, h2⟩
   ·exact .inl ⟨by omega, h2⟩
   ·exact .inr ⟨by omega, h2⟩
theorem flat_oneCell (l : List (ByteArray × ByteArray)) : ∀ u ∈ flat l, u.oneCell' = true := by
 intro u hu
 simp only [flat, List.mem_flatMap] at hu
 obtain ⟨p, _, hp⟩ := hu
 simp at hp
 rcases hp with rfl | rfl <;> rfl
theorem strs_oneCell (l : List ByteArray) : ∀ u ∈ l.map Value.string, u.oneCell' = true := by
 intro u hu
 obtain ⟨s, _, rfl⟩ := List.mem_map.1 hu
 rfl
theorem Row.pair {w : World} {A : Option Addr} {l : List (ByteArray × ByteArray)} {k : Nat} {x y : ByteArray} (h : Row w A (flat l)) (hk : l[k]? = some (x, y)) :
  ∃ b off, A = some ⟨b, off, none⟩ ∧ b < w.heap.size ∧ w.cell? ⟨b, off + k * 2, none⟩ = some (.string x) ∧ w.cell? ⟨b, off + k * 2 + 1, none⟩ = some (.string y) := by
 obtain ⟨h0, h1⟩ := flat_get hk
 obtain ⟨b, off, e, hb, hc⟩ := h.at_ h0
 exact ⟨b, off, e, hb, hc _ _ h0, by rw [Nat.add_assoc]; exact hc _ _ h1⟩
theorem Row.str {w : World} {A : Option Addr} {l : List ByteArray} {k : Nat} {x : ByteArray} (h : Row w A (l.map .string)) (hk : l[k]? = some x) :
  ∃ b off, A = some ⟨b, off, none⟩ ∧ b < w.heap.size ∧ w.cell? ⟨b, off + k, none⟩ = some (.string x) := by
 have h0 : (l.map Value.string)[k]? = some (.string x) := by rw [List.getElem?_map, hk]; rfl
 obtain ⟨b, off, e, hb, hc⟩ := h.at_ h0
 exact ⟨b, off, e, hb, hc _ _ h0⟩
theorem some_of_lt {α : Type} {l : List α} {k : Nat} (h : k < l.length) : ∃ x, l[k]? = some x := ⟨l[k], List.getElem?_eq_getElem h⟩
theorem take_snoc {α : Type} {l : List α} {k : Nat} {x : α} (h : l[k]? = some x) : l.take (k + 1) = l.take k ++ [x] := by
 obtain ⟨hk, rfl⟩ := List.getElem?_eq_some_iff.1 h
 exact List.take_succ_eq_append_getElem hk
theorem lt_of_some {α : Type} {l : List α} {k : Nat} {x : α} (h : l[k]? = some x) : k < l.length := (List.getElem?_eq_some_iff.1 h).1
abbrev Fl := ByteArray × ByteArray
def bulkF (l : List (ByteArray × ByteArray)) : Nat := (l.map fun p => p.1.size + p.2.size + 3).sum
def Wide (l : List Fl) : Prop := ∀ p ∈ l, p.1.size ≤ maxLen ∧ p.2.size ≤ maxLen
theorem Wide.at_ {l : List Fl} (h : Wide l) {k : Nat} {x y : ByteArray} (hk : l[k]? = some (x, y)) : x.size ≤ maxLen ∧ y.size ≤ maxLen := h _ (List.mem_of_getElem? hk)
section
variable {w w' : World} {base : Nat} {e : TypeId} {size n : Nat} {v : Value} {xs : List Value}
theorem own_below (h : w.ownsRow base e size v n xs) (hb : Below w.heap.size w w') : w'.ownsRow base e size v n xs :=
 h.kept (row := none) ⟨hb.os, hb.tape, hb.output, hb.size, fun k hk _ => hb.block k hk⟩ (by
  cases hv : v.ownBlock with
  | none => exact .inl rfl
  | some k => exact .inr (by simp))
theorem own_slice (h : w.ownsRow base e size v n xs) : ∃ A c, v = .slice A n c := by
 rcases h.2 with ⟨rfl, rfl⟩ | ⟨g, cap, cur, rfl, _⟩
 ·exact ⟨none, 0, rfl⟩
 ·exact ⟨_, _, rfl⟩
theorem own_row {A : Option Addr} {c : Nat} (h : w.ownsRow base e size (.slice A n c) n xs) : Row w A xs := fun hx => by
 have hn : 0 < n := by
  rcases Nat.eq_zero_or_pos n with h0 | h0
  ·subst h0
   have := h.1
   simp at this
   rw [this] at hx
   simp at hx
  ·exact h0
 obtain ⟨g, cap, hv, _, hlt⟩ := h.form hn
 have hA : A = some ⟨g, 0, none⟩ := by injection hv
 subst hA
 refine ⟨g, 0, rfl, hlt, fun j u hu => ?_⟩
 have := h.cells (g := g) rfl j u hu
 rw [Nat.zero_add]
 unfold Addr.add at this
 split at this
 ·rename_i h0
  rw [h0]
  exact this
 ·simpa using this
theorem own_cap {A : Option Addr} {cap : Nat} (h : w.ownsRow base e size (.slice A n cap) n xs) : n ≤ cap := by
 rcases h.2 with ⟨hv, hn⟩ | ⟨g, cap', cur, hv, _, _, hc, _⟩
 ·omega
 ·injection hv with _ _ hv
  omega
theorem own_lt (h : w.ownsRow base e size v n xs) : ∀ k, v.ownBlock = some k → base ≤ k := fun k hk => (h.lt k hk).1
end
end Go.Proofs.YtbnafbdhomdcoaaGreatDoor
namespace Go.Proofs.YtbnafbdhomdcoaaGreatDoor
open Go.RowKit Go.Shelf Go.Lib
theorem Glob.alloc {w : World} (h : Glob w) (o : Obj) : Glob (w.alloc o) := h.beyond ((Below.refl w.heap.size w).alloc (Nat.le_refl _) o)
theorem Glob.setCell {w : World} (h : Glob w) {p : Addr} (hp : 3 ≤ p.block) (u : Value) : Glob (w.setCell p u) :=
 h.below (B := 3) ((Below.refl _ w).setCell hp u) (Nat.le_refl _)
theorem box2 {w w1 : World} {x y : Value} {t : TypeId} (h : Below (w.heap.size + 1) (w.alloc (.cells #[x, y] t)) w1) :
  (w1.cell? ⟨w.heap.size, 0, none⟩ = some x ∧ w1.cell? ⟨w.heap.size, 1, none⟩ = some y) ∧ (w1.frozen? ⟨w.heap.size, 0, none⟩ = false ∧ w1.frozen? ⟨w.heap.size, 1, none⟩ = false) ∧ w.heap.size < w1.heap.size := by
 refine ⟨⟨?_, ?_⟩, ⟨?_, ?_⟩, ?_⟩
 ·rw [h.cell (p := ⟨w.heap.size, 0, none⟩) (by simp)]; simp
 ·rw [h.cell (p := ⟨w.heap.size, 1, none⟩) (by simp)]; simp
 ·rw [h.frozen (p := ⟨w.heap.size, 0, none⟩) (by simp)]; simp
 ·rw [h.frozen (p := ⟨w.heap.size, 1, none⟩) (by simp)]; simp
 ·have := h.size; simp at this; omega
theorem below_box {w w1 : World} {o : Obj} (h : Below (w.heap.size + 1) (w.alloc o) w1) : Below w.heap.size w w1 :=
 ((Below.refl w.heap.size w).alloc (Nat.le_refl _) o).trans (h.mono (by omega))
end Go.Proofs.YtbnafbdhomdcoaaGreatDoor
