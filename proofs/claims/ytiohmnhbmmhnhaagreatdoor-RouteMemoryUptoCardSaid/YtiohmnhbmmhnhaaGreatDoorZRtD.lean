/-
 RtD, without what this claim does not reach.
-/
import Derived.Test.YtiohmnhbmmhnhaaGreatDoorZRtP
import Derived.Test.YtiohmnhbmmhnhaaGreatDoorZTgR
import Derived.Test.YtiohmnhbmmhnhaaGreatDoorZMem
import Derived.Test.YtiohmnhbmmhnhaaGreatDoorZRxR
namespace Go.Proofs.YtiohmnhbmmhnhaaGreatDoor
open Go.RowKit Go.Shelf Go.Lib
abbrev Rv := (Option Addr × Nat) × List ByteArray × ByteArray
def rvV (x : Rv) : List Value := [.slice x.1.1 x.2.1.length x.1.2, .string x.2.2]
def flatR (l : List Rv) : List Value := l.flatMap rvV
theorem flatR_append (l m : List Rv) : flatR (l ++ m) = flatR l ++ flatR m := by simp [flatR]
theorem flatR_get {l : List Rv} {k : Nat} {x : Rv} (h : l[k]? = some x) : (flatR l)[k * 2]? = some (.slice x.1.1 x.2.1.length x.1.2) ∧ (flatR l)[k * 2 + 1]? = some (.string x.2.2) := by
 induction l generalizing k with
 | nil => simp at h
 | cons p l ih =>
  cases k with
  | zero =>
   simp at h
   subst h
   exact ⟨rfl, rfl⟩
  | succ k =>
   obtain ⟨h0, h1⟩ := ih (k := k) (by simpa using h)
   have e : flatR (p :: l) = .slice p.1.1 p.2.1.length p.1.2 :: .string p.2.2 :: flatR l := rfl
   rw [e, show (k + 1) * 2 = k * 2 + 1 + 1 by omega, show k * 2 + 1 + 1 + 1 = (k * 2 + 1) + 1 + 1 from rfl]
   simp only [List.getElem?_cons_succ]
   exact ⟨h0, h1⟩
theorem Row.rv {w : World} {A : Option Addr} {l : List Rv} {k : Nat} {x : Rv} (h : Row w A (flatR l)) (hk : l[k]? = some x) :
  ∃ b off, A = some ⟨b, off, none⟩ ∧ b < w.heap.size ∧ w.cell? ⟨b, off + k * 2, none⟩ = some (.slice x.1.1 x.2.1.length x.1.2) ∧ w.cell? ⟨b, off + k * 2 + 1, none⟩ = some (.string x.2.2) := by
 obtain ⟨h0, h1⟩ := flatR_get hk
 obtain ⟨b, off, e, hb, hc⟩ := h.at_ h0
 exact ⟨b, off, e, hb, hc _ _ h0, by rw [Nat.add_assoc]; exact hc _ _ h1⟩
def plR (l : List Rv) : List Rt := l.map (·.2)
theorem plR_length (l : List Rv) : (plR l).length = l.length := List.length_map _
theorem plR_get {l : List Rv} {k : Nat} {x : Rv} (h : l[k]? = some x) : (plR l)[k]? = some x.2 := by unfold plR; rw [List.getElem?_map, h]; rfl
theorem plR_append (l m : List Rv) : plR (l ++ m) = plR l ++ plR m := List.map_append
def MOne (w : World) (x : Rv) : Prop := Row w x.1.1 (x.2.1.map .string) ∧ x.2.1.length ≤ x.1.2
def MOk (w : World) (l : List Rv) : Prop := ∀ x ∈ l, MOne w x
section
variable {w w' : World} {l m : List Rv}
theorem MOk.below (h : MOk w l) (hb : Below w.heap.size w w') : MOk w' l := fun x hx => ⟨(h x hx).1.below hb, (h x hx).2⟩
theorem MOk.alloc (h : MOk w l) (o : Obj) : MOk (w.alloc o) l := fun x hx => ⟨(h x hx).1.alloc o, (h x hx).2⟩
theorem MOk.append (h : MOk w l) (h2 : MOk w m) : MOk w (l ++ m) := fun x hx => by
 rcases List.mem_append.1 hx with hx | hx
 ·exact h x hx
 ·exact h2 x hx
theorem MOk.take (h : MOk w l) (k : Nat) : MOk w (l.take k) := fun x hx => h x (List.mem_of_mem_take hx)
end
structure Tl where
 (A : Option Addr) (n c : Nat) (k : Int) (x y z : ByteArray) (s m : Int)
abbrev Ra := Rv × Tl
def raV (x : Ra) : List Value := [.slice x.1.1.1 x.1.2.1.length x.1.1.2, .string x.1.2.2, .slice x.2.A x.2.n x.2.c, .int .i64 x.2.k, .string x.2.x, .string x.2.y, .string x.2.z, .int .i64 x.2.s, .int .i64 x.2.m]
def flatA (l : List Ra) : List Value := l.flatMap raV
theorem flatA_append (l m : List Ra) : flatA (l ++ m) = flatA l ++ flatA m := by simp [flatA]
theorem flatA_at {l : List Ra} {k : Nat} {x : Ra} (h : l[k]? = some x) (i : Nat) (hi : i < 9) : (flatA l)[k * 9 + i]? = (raV x)[i]? := by
 induction l generalizing k with
 | nil => simp at h
 | cons p l ih =>
  have e : flatA (p :: l) = raV p ++ flatA l := rfl
  have hl : (raV p).length = 9 := rfl
  cases k with
  | zero =>
   simp at h
   subst h
   rw [e, Nat.zero_mul, Nat.zero_add, List.getElem?_append_left (by omega)]
  | succ k =>
   rw [e, List.getElem?_append_right (by omega), hl, show (k + 1) * 9 + i - 9 = k * 9 + i by omega]
   exact ih (by simpa using h)
theorem Row.ra {w : World} {A : Option Addr} {l : List Ra} {k : Nat} {x : Ra} (h : Row w A (flatA l)) (hk : l[k]? = some x) :
  ∃ b off, A = some ⟨b, off, none⟩ ∧ b < w.heap.size ∧ w.cell? ⟨b, off + k * 9, none⟩ = some (.slice x.1.1.1 x.1.2.1.length x.1.1.2) ∧ w.cell? ⟨b, off + k * 9 + 1, none⟩ = some (.string x.1.2.2) ∧ w.cell? ⟨b, off + k * 9 + 2, none⟩ = some (.slice x.2.A x.2.n x.2.c) ∧ w.cell? ⟨b, off + k * 9 + 3, none⟩ = some (.int .i64 x.2.k) ∧ w.cell? ⟨b, off + k * 9 + 4, none⟩ = some (.string x.2.x) ∧ w.cell? ⟨b, off + k * 9 + 5, none⟩ = some (.string x.2.y) ∧ w.cell? ⟨b, off + k * 9 + 6, none⟩ = some (.string x.2.z) ∧ w.cell? ⟨b, off + k * 9 + 7, none⟩ = some (.int .i64 x.2.s) ∧ w.cell? ⟨b, off + k * 9 + 8, none⟩ = some (.int .i64 x.2.m) := by
 obtain ⟨b, off, e, hb, hc⟩ := h.at_ (flatA_at hk 0 (by omega))
 refine ⟨b, off, e, hb, ?_⟩
 refine ⟨hc _ _ (flatA_at hk 0 (by omega)), by have := hc _ _ (flatA_at hk 1 (by omega)); rwa [← Nat.add_assoc] at this, by have := hc _ _ (flatA_at hk 2 (by omega)); rwa [← Nat.add_assoc] at this, by have := hc _ _ (flatA_at hk 3 (by omega)); rwa [← Nat.add_assoc] at this, by have := hc _ _ (flatA_at hk 4 (by omega)); rwa [← Nat.add_assoc] at this, by have := hc _ _ (flatA_at hk 5 (by omega)); rwa [← Nat.add_assoc] at this, by have := hc _ _ (flatA_at hk 6 (by omega)); rwa [← Nat.add_assoc] at this, by have := hc _ _ (flatA_at hk 7 (by omega)); rwa [← Nat.add_assoc] at this, by have := hc _ _ (flatA_at hk 8 (by omega)); rwa [← Nat.add_assoc] at this⟩
def plA (l : List Ra) : List Rt := l.map (·.1.2)
theorem plA_length (l : List Ra) : (plA l).length = l.length := List.length_map _
theorem plA_get {l : List Ra} {k : Nat} {x : Ra} (h : l[k]? = some x) : (plA l)[k]? = some x.1.2 := by unfold plA; rw [List.getElem?_map, h]; rfl
theorem plA_append (l m : List Ra) : plA (l ++ m) = plA l ++ plA m := List.map_append
def AOk (w : World) (l : List Ra) : Prop := ∀ x ∈ l, MOne w x.1
section
variable {w w' : World} {l m : List Ra}
theorem AOk.below (h : AOk w l) (hb : Below w.heap.size w w') : AOk w' l := fun x hx => ⟨(h x hx).1.below hb, (h x hx).2⟩
theorem AOk.alloc (h : AOk w l) (o : Obj) : AOk (w.alloc o) l := fun x hx => ⟨(h x hx).1.alloc o, (h x hx).2⟩
theorem AOk.append (h : AOk w l) (h2 : AOk w m) : AOk w (l ++ m) := fun x hx => by
 rcases List.mem_append.1 hx with hx | hx
 ·exact h x hx
 ·exact h2 x hx
theorem AOk.drop (h : AOk w l) (k : Nat) : AOk w (l.drop k) := fun x hx => h x (List.mem_of_mem_drop hx)
theorem AOk.take (h : AOk w l) (k : Nat) : AOk w (l.take k) := fun x hx => h x (List.mem_of_mem_take hx)
end
def bulk1 (r : Rt) : Nat := (r.1.map fun m => m.size + 1).sum + r.2.size + 4
def bulkRt (l : List Rt) : Nat := (l.map bulk1).sum
theorem bulkRt_cons (r : Rt) (l : List Rt) : bulkRt (r :: l) = bulk1 r + bulkRt l := by simp [bulkRt]
theorem bulkRt_mem {l : List Rt} {r : Rt} (h : r ∈ l) : bulk1 r ≤ bulkRt l := by
 induction l with
 | nil => cases h
 | cons x l ih =>
  rw [bulkRt_cons]
  rcases List.mem_cons.1 h with rfl | h
  ·omega
  ·have := ih h; omega
theorem bulkRt_len (l : List Rt) : l.length * 4 ≤ bulkRt l := by
 induction l with
 | nil => exact Nat.le_refl _
 | cons x l ih =>
  rw [bulkRt_cons, List.length_cons]
  unfold bulk1
  omega
theorem bulkRt_append (l m : List Rt) : bulkRt (l ++ m) = bulkRt l + bulkRt m := by simp [bulkRt]
theorem sum1_mem {l : List ByteArray} {m : ByteArray} (h : m ∈ l) : m.size + 1 ≤ (l.map fun m => m.size + 1).sum := by
 induction l with
 | nil => cases h
 | cons x l ih =>
  rw [List.map_cons, List.sum_cons]
  rcases List.mem_cons.1 h with rfl | h
  ·omega
  ·have := ih h; omega
theorem sum1_len (l : List ByteArray) : l.length ≤ (l.map fun m => m.size + 1).sum := by
 induction l with
 | nil => exact Nat.le_refl _
 | cons x l ih => rw [List.map_cons, List.sum_cons, List.length_cons]; omega
structure Slim (r : Rt) : Prop where
 pat : r.2.size ≤ 1048576
 num : r.1.length ≤ 1048576
 met : ∀ m ∈ r.1, m.size ≤ 1048576
theorem slim_of {r : Rt} (h : bulk1 r ≤ 1048576) : Slim r := by
 unfold bulk1 at h
 have h2 := sum1_len r.1
 exact ⟨by omega, by omega, fun m hm => by have := sum1_mem hm; omega⟩
theorem slim_mem {l : List Rt} (h : bulkRt l ≤ 1048576) {r : Rt} (hr : r ∈ l) : Slim r := slim_of (by have := bulkRt_mem hr; omega)
theorem info_route : (Tryz.prog.info? 38).map (fun i => (i.zero, i.size, i.bytes)) = some (some (.agg #[.slice none 0 0, .string ⟨#[]⟩, .slice none 0 0, .int .i64 0, .string ⟨#[]⟩, .string ⟨#[]⟩, .string ⟨#[]⟩, .int .i64 0, .int .i64 0]), 9, 136) := by kernel_rfl
theorem info_rroute : (Tryz.prog.info? 93).map (fun i => (i.zero, i.size, i.bytes)) = some (some (.agg #[.slice none 0 0, .string ⟨#[]⟩]), 2, 40) := by kernel_rfl
end Go.Proofs.YtiohmnhbmmhnhaaGreatDoor
namespace Go.Proofs.YtiohmnhbmmhnhaaGreatDoor
open Go.RowKit Go.Shelf Go.Lib
structure GlobR (w : World) : Prop where
 g : Glob w
 sgn : ∀ k : Nat, k < 4 → w.cell? ⟨1, k, none⟩ = some (.int .u32 (signTab.getD k 0))
theorem GlobR.beyond {w w' : World} (h : GlobR w) (hb : Below w.heap.size w w') : GlobR w' :=
 ⟨h.g.beyond hb, fun k hk => by rw [hb.cell (p := ⟨1, k, none⟩) (show 1 < w.heap.size from Nat.lt_of_lt_of_le (by decide) h.g.size)]; exact h.sgn k hk⟩
theorem isSign_big (c : Int) (w : World) (h0 : 128 ≤ c) :
  Calls Tryz.prog 149 #[.int .u8 c] w fun e w' => e = .returned (.bool false) ∧ w = w' := by
 have hd : decide (c < 128) = false := by simpa using h0
 go_enter Tryz.func149, Tryz.ntmps149
 go_wp2
 go_ret
 exact ⟨rfl, rfl⟩
theorem isSign_small (c v : Int) (w : World) (h0 : 0 ≤ c) (h1 : c < 128) (hv : w.cell? ⟨1, (c / 32).toNat, none⟩ = some (.int .u32 v)) :
  Calls Tryz.prog 149 #[.int .u8 c] w fun e w' => e = .returned (.bool (bits BinOp.and IntKind.u32 (v / 2 ^ (c % 32).toNat) 1 == 1)) ∧ w = w' := by
 go_enter Tryz.func149, Tryz.ntmps149
 go_wp2
 go_ret
 exact ⟨rfl, rfl⟩
theorem isSign_any (c : Int) (w : World) (h0 : 0 ≤ c) (hg : GlobR w) :
  Calls Tryz.prog 149 #[.int .u8 c] w fun e w' => e = .returned (.bool (sign c)) ∧ w = w' := by
 by_cases h : c < 128
 ·rw [← sign_tab c h0 h]
  exact isSign_small c _ w h0 h (hg.sgn _ (by omega))
 ·rw [sign_big c (by omega)]
  exact isSign_big c w (by omega)
theorem IsToken_any (s : ByteArray) (w : World) (hs : s.size ≤ maxLen) (hg : GlobR w) :
  Calls Tryz.prog 110 #[.string s] w fun e w' => e = .returned (.bool (isTok s)) ∧ w = w' := by
 unfold maxLen at hs
 go_enter Tryz.func110, Tryz.ntmps110
 go_wp2
 go_loop [6] (fun i => ∃ k : Nat, k ≤ s.size ∧ i = .int .i64 k ∧ AllTo sign s k) (fun i => s.size - (RowKit.intOf i).toNat)
 case atStart => exact ⟨0, by omega, rfl, AllTo.zero _ _⟩
 case round =>
  obtain ⟨k, hk, rfl, hall⟩ := hrel
  by_cases hlt : k < s.size
  ·have hb := @bt_eq s k hlt
   go_wp2_with (go_at_call 149; refine (isSign_any _ _ (by omega) hg).mono ?_; rintro e w' ⟨rfl, rfl⟩)
   ·have h : (!sign (bt s k)) = true := by assumption
    go_ret
    exact ⟨ret_bool (by simp [isTok, allB_false hlt (by simpa using h)]), rfl⟩
   ·have h : (!sign (bt s k)) = false := by assumption
    go_round
    case rel => exact ⟨k + 1, by omega, by go_num, hall.succ (by simpa using h)⟩
    case measure => simp [RowKit.intOf]; omega
  ·obtain rfl : k = s.size := by omega
   go_wp2
   go_ret
   exact ⟨ret_bool (by rw [isTok, allB_true hall, empty_eq]; simp), rfl⟩
theorem methodB_no {s : ByteArray} (h : isTok s = false) : methodB s = false := by unfold methodB; rw [h]; rfl
theorem methodB_yes {s : ByteArray} (h : isTok s = true) : methodB s = decide (s.size ≤ 24) := by unfold methodB; rw [h]; rfl
theorem IsMethod_any (s : ByteArray) (w : World) (hs : s.size ≤ 1099511627776) (hg : GlobR w) :
  Calls Tryz.prog 71 #[.string s] w fun e w' => e = .returned (.bool (methodB s)) ∧ w = w' := by
 have HT := Lib.hid (IsToken_any s w (by unfold maxLen; omega) hg)
 cases hb : isTok s
 ·rw [hb] at HT
  have HV := Lib.hid (methodB_no hb)
  clear hb
  go_enter Tryz.func71, Tryz.ntmps71
  go_wp2_with fail
  refine HT.out.mono ?_
  rintro e w' ⟨rfl, rfl⟩
  go_wp2
  go_ret
  exact ⟨ret_bool HV.out.symm, rfl⟩
 ·rw [hb] at HT
  have HV := Lib.hid (methodB_yes hb)
  clear hb
  by_cases h24 : s.size ≤ 24
  all_goals
   go_enter Tryz.func71, Tryz.ntmps71
   go_wp2_with fail
   refine HT.out.mono ?_
   rintro e w' ⟨rfl, rfl⟩
   go_wp2
   go_ret
   exact ⟨ret_bool (by rw [HV.out]; first | (symm; exact decide_eq_true (by omega)) | (symm; exact decide_eq_false (by omega)) | (simp; omega)), rfl⟩
theorem alnum_eq (c : Int) : alnum c = (isDgt c || isLet c) := by
 rw [Bool.eq_iff_iff]
 simp [alnum, isDgt, isLet]
 omega
set_option maxRecDepth 20000 in
theorem rSign_any (c : Int) (w : World) :
  Calls Tryz.prog 156 #[.int .u8 c] w fun e w' => e = .returned (.bool (sign c)) ∧ w = w' := by
 have HD := Lib.hid (fun w => rDigit_any c w)
 have HL := Lib.hid (fun w => rLetter_any c w)
 have HAL := alnum_eq c
 cases hd : isDgt c
 ·cases hl : isLet c
  ·rw [hd, hl] at HAL
   have HA := Lib.hid (show alnum c = false from HAL)
   rw [hd] at HD
   rw [hl] at HL
   clear HAL hd hl
   go_enter Tryz.func156, Tryz.ntmps156
   go_wp2_with fail
   refine (HD.out _).mono ?_
   rintro e w' ⟨rfl, rfl⟩
   go_wp2_with fail
   refine (HL.out _).mono ?_
   rintro e w' ⟨rfl, rfl⟩
   go_wp2
   have hsz : oth.size ≤ 15 := by rw [oth_size]; exact Nat.le_refl _
   have hsz' : 15 ≤ oth.size := by rw [oth_size]; exact Nat.le_refl _
   go_loop [4] (fun i => ∃ k : Nat, k ≤ oth.size ∧ i = .int .i64 k ∧ AllTo (fun b => !decide (b = c)) oth k) (fun i => oth.size - (RowKit.intOf i).toNat)
   case atStart => exact ⟨0, by omega, rfl, AllTo.zero _ _⟩
   case round =>
    obtain ⟨k, hk, rfl, hall⟩ := hrel
    by_cases hlt : k < oth.size
    ·have hb : ((((⟨#[33, 35, 36, 37, 38, 39, 42, 43, 45, 46, 94, 95, 96, 124, 126]⟩ : ByteArray)[k]'hlt).toNat : Nat) : Int) = bt oth k := @bt_eq oth k hlt
     have hlt15 : k < 15 := by omega
     by_cases hc : bt oth k = c
     ·have hcc : (bt oth k == c) = true := by simpa using hc
      have HC := Lib.hid hc
      clear hc
      go_wp2
      go_ret
      exact ⟨ret_bool (by rw [sign, allB_false hlt (by simp [HC.out])]; simp), rfl⟩
     ·have hcc : (bt oth k == c) = false := by simpa using hc
      have HC := Lib.hid hc
      clear hc
      go_wp2
      go_round
      case rel => exact ⟨k + 1, by omega, by go_num, hall.succ (by simpa using HC.out)⟩
      case measure => simp [RowKit.intOf]; omega
    ·obtain rfl : k = oth.size := by omega
     go_wp2
     go_ret
     exact ⟨ret_bool (by rw [sign, HA.out, allB_true hall]; rfl), rfl⟩
  ·rw [hd, hl] at HAL
   have HA := Lib.hid (show sign c = true by rw [sign, HAL]; rfl)
   rw [hd] at HD
   rw [hl] at HL
   clear HAL hd hl
   go_enter Tryz.func156, Tryz.ntmps156
   go_wp2_with fail
   refine (HD.out _).mono ?_
   rintro e w' ⟨rfl, rfl⟩
   go_wp2_with fail
   refine (HL.out _).mono ?_
   rintro e w' ⟨rfl, rfl⟩
   go_wp2
   go_ret
   exact ⟨ret_bool HA.out.symm, rfl⟩
 ·rw [hd] at HAL
  have HA := Lib.hid (show sign c = true by rw [sign, HAL]; rfl)
  rw [hd] at HD
  clear HAL hd
  go_enter Tryz.func156, Tryz.ntmps156
  go_wp2_with fail
  refine (HD.out _).mono ?_
  rintro e w' ⟨rfl, rfl⟩
  go_wp2
  go_ret
  exact ⟨ret_bool HA.out.symm, rfl⟩
theorem rToken_any (s : ByteArray) (w : World) (hs : s.size ≤ maxLen) :
  Calls Tryz.prog 121 #[.string s] w fun e w' => e = .returned (.bool (isTok s)) ∧ w = w' := by
 unfold maxLen at hs
 go_enter Tryz.func121, Tryz.ntmps121
 go_wp2
 go_loop [3] (fun i => ∃ k : Nat, k ≤ s.size ∧ i = .int .i64 k ∧ AllTo sign s k) (fun i => s.size - (RowKit.intOf i).toNat)
 case atStart => exact ⟨0, by omega, rfl, AllTo.zero _ _⟩
 case round =>
  obtain ⟨k, hk, rfl, hall⟩ := hrel
  by_cases hlt : k < s.size
  ·have hb := @bt_eq s k hlt
   go_wp2_with (go_at_call 156; refine (rSign_any _ _).mono ?_; rintro e w' ⟨rfl, rfl⟩)
   ·have h : (!sign (bt s k)) = true := by assumption
    go_ret
    exact ⟨ret_bool (by rw [isTok, allB_false hlt (by simpa using h)]; rfl), rfl⟩
   ·have h : (!sign (bt s k)) = false := by assumption
    go_round
    case rel => exact ⟨k + 1, by omega, by go_num, hall.succ (by simpa using h)⟩
    case measure => simp [RowKit.intOf]; omega
  ·obtain rfl : k = s.size := by omega
   go_wp2
   go_ret
   exact ⟨ret_bool (by rw [isTok, allB_true hall, empty_eq]; simp), rfl⟩
theorem rIsMethod_any (s : ByteArray) (w : World) (hs : s.size ≤ 1099511627776) :
  Calls Tryz.prog 86 #[.string s] w fun e w' => e = .returned (.bool (methodB s)) ∧ w = w' := by
 have HT := Lib.hid (rToken_any s w (by unfold maxLen; omega))
 cases hb : isTok s
 ·rw [hb] at HT
  have HV := Lib.hid (methodB_no hb)
  clear hb
  go_enter Tryz.func86, Tryz.ntmps86
  go_wp2_with fail
  refine HT.out.mono ?_
  rintro e w' ⟨rfl, rfl⟩
  go_wp2
  go_ret
  exact ⟨ret_bool HV.out.symm, rfl⟩
 ·rw [hb] at HT
  have HV := Lib.hid (methodB_yes hb)
  clear hb
  by_cases h24 : s.size ≤ 24
  all_goals
   go_enter Tryz.func86, Tryz.ntmps86
   go_wp2_with fail
   refine HT.out.mono ?_
   rintro e w' ⟨rfl, rfl⟩
   go_wp2
   go_ret
   exact ⟨ret_bool (by rw [HV.out]; first | (symm; exact decide_eq_true (by omega)) | (symm; exact decide_eq_false (by omega)) | (simp; omega)), rfl⟩
theorem containsS_inL (zs : List ByteArray) (x : ByteArray) : Lib.containsS zs x = inL zs x := by
 rw [Bool.eq_iff_iff, Lib.containsS_iff, inL_iff]
theorem getD_str {zs : List ByteArray} {j : Nat} (h : j < zs.length) : (zs.map Value.string)[j]? = some (.string (zs.getD j ByteArray.empty)) := by
 rw [List.getElem?_map, List.getD_eq_getElem?_getD, List.getElem?_eq_getElem h]
 rfl
theorem Contains_any (A : Option Addr) (c : Nat) (zs : List ByteArray) (x : ByteArray) (w : World) (hr : Row w A (zs.map .string)) (hl : zs.length ≤ 1099511627776) :
  Calls Tryz.prog 72 #[.slice A zs.length c, .string x] w fun e w' => e = .returned (.bool (inL zs x)) ∧ w = w' := by
 rcases Nat.eq_zero_or_pos zs.length with h0 | h0
 ·obtain rfl : zs = [] := List.eq_nil_of_length_eq_zero h0
  exact (Tryz.slices_Contains_string_empty A c x w).mono fun e w' ⟨h1, h2⟩ => ⟨h1, h2.symm⟩
 ·obtain ⟨b, off, rfl, hb, hc⟩ := hr (by rw [List.length_map]; exact h0)
  refine (Tryz.slices_Contains_string b off zs.length c zs x w (Nat.le_refl _) (by omega) (fun j hj => hc j _ (getD_str hj))).mono fun e w' ⟨h1, h2⟩ => ⟨?_, h2.symm⟩
  rw [h1, List.take_length, containsS_inL]
set_option maxRecDepth 20000 in
theorem rInL_any (A : Option Addr) (c : Nat) (zs : List ByteArray) (x : ByteArray) (w : World) (hr : Row w A (zs.map .string)) (hl : zs.length ≤ 1099511627776) :
  Calls Tryz.prog 87 #[.slice A zs.length c, .string x] w fun e w' => e = .returned (.bool (inL zs x)) ∧ w = w' := by
 go_enter Tryz.func87, Tryz.ntmps87
 go_wp2
 go_loop [9] (fun i => ∃ k : Nat, k ≤ zs.length ∧ i = .int .i64 k ∧ ∀ (j : Nat) y, j < k → zs[j]? = some y → y ≠ x) (fun i => zs.length - (RowKit.intOf i).toNat)
 case atStart => exact ⟨0, by omega, rfl, fun j y h _ => by omega⟩
 case round =>
  obtain ⟨k, hk, rfl, hno⟩ := hrel
  have HN := Lib.hid hno
  clear hno
  by_cases hlt : k < zs.length
  ·obtain ⟨y, hy⟩ := some_of_lt hlt
   obtain ⟨b, off, rfl, hb, h0⟩ := hr.str hy
   have HY := Lib.hid hy
   clear hy
   by_cases he : y = x
   ·have hc : (y.toList == x.toList) = true := by rw [eq_str]; exact decide_eq_true he
    have HR := Lib.hid (show inL zs x = true from inL_iff.2 (he ▸ List.mem_of_getElem? HY.out))
    clear he
    go_wp2
    go_ret
    exact ⟨ret_bool HR.out.symm, rfl⟩
   ·have hc : (y.toList == x.toList) = false := by rw [eq_str]; exact decide_eq_false he
    have HE := Lib.hid he
    clear he
    go_wp2
    go_round
    case rel => exact ⟨k + 1, by omega, by go_num, fun j z hj hz => by
     rcases Nat.lt_or_ge j k with h | h
     ·exact HN.out j z h hz
     ·obtain rfl : j = k := by omega
      rw [HY.out] at hz
      injection hz with hz
      rw [← hz]
      exact HE.out⟩
    case measure => simp [RowKit.intOf]; omega
  ·obtain rfl : k = zs.length := by omega
   have HR := Lib.hid (show inL zs x = false by
    cases h : inL zs x
    ·rfl
    ·obtain ⟨j, hj, e⟩ := List.getElem_of_mem (inL_iff.1 h)
     exact absurd e (HN.out j _ hj (List.getElem?_eq_getElem hj)))
   go_wp2
   go_ret
   exact ⟨ret_bool HR.out.symm, rfl⟩
def GivesTx (w : World) (l : List ByteArray) (e : Ending) (w' : World) : Prop :=
 ∃ A c, e = .returned (.slice A l.length c) ∧ w'.ownsRow w.heap.size 9 1 (.slice A l.length c) l.length (l.map .string) ∧ Below w.heap.size w w'
theorem gives_tx {w w' : World} {l : List ByteArray} {v : Value} {n : Nat} (ho : w'.ownsRow n 9 1 v l.length (l.map .string)) (hn : w.heap.size ≤ n) (hb : Below w.heap.size w w') : GivesTx w l (.returned v) w' := by
 obtain ⟨A, c, rfl⟩ := own_slice ho
 exact ⟨A, c, rfl, ho.mono hn, hb⟩
theorem CloneS_any (A : Option Addr) (c : Nat) (l : List ByteArray) (w : World) (hr : Row w A (l.map .string)) (hl : l.length ≤ 1048576) :
  Calls Tryz.prog 36 #[.slice A l.length c] w (GivesTx w l) := by
 cases A with
 | none =>
  have hnil : l = [] := by
   cases l with
   | nil => rfl
   | cons p l =>
    obtain ⟨b, off, h, _⟩ := hr (by simp)
    cases h
  subst hnil
  refine (Tryz.slices_Clone_string_nil 0 c w).mono ?_
  rintro e w' ⟨rfl, rfl⟩
  exact ⟨none, 0, rfl, World.ownsRow_nil _ _ _ _, Below.refl _ _⟩
 | some a =>
  rcases Nat.eq_zero_or_pos l.length with h0 | h0
  ·obtain rfl : l = [] := List.eq_nil_of_length_eq_zero h0
   refine (Tryz.slices_Clone_string_zero a c w).mono ?_
   rintro e w' ⟨v, rfl, ho, _, hb⟩
   exact gives_tx (l := []) ho (Nat.le_refl _) hb
  ·obtain ⟨b, off, e, hb, hc⟩ := hr (by rw [List.length_map]; exact h0)
   obtain rfl := Option.some.inj e
   refine (Tryz.slices_Clone_string b off l.length c l w (Nat.le_refl _) (by omega) (fun j hj => hc j _ (getD_str hj))).mono ?_
   rintro e w' ⟨v, rfl, ho, _, hb⟩
   rw [List.take_length] at ho
   exact gives_tx ho (Nat.le_refl _) hb
set_option maxRecDepth 20000 in
theorem CloneT_any (s : ByteArray) (w : World) (hs : s.size ≤ 4294967296) :
  Calls Tryz.prog 37 #[.string s] w fun e w' => e = .returned (.string s) ∧ Below w.heap.size w w' := by
 have HC := Lib.hid (Tryz.stringslite_Clone s w (by omega))
 go_enter Tryz.func37, Tryz.ntmps37
 go_wp2_with fail
 refine HC.out.mono ?_
 rintro e w' ⟨rfl, hb⟩
 go_wp2
 go_ret
 exact ⟨rfl, hb⟩
end Go.Proofs.YtiohmnhbmmhnhaaGreatDoor
namespace Go.Proofs.YtiohmnhbmmhnhaaGreatDoor
open Go.RowKit Go.Shelf Go.Lib
theorem drop_some {α : Type} {l : List α} {k : Nat} {x : α} (h : l[k]? = some x) : l.drop k = x :: l.drop (k + 1) := by
 obtain ⟨hk, rfl⟩ := List.getElem?_eq_some_iff.1 h
 exact List.drop_eq_getElem_cons hk
theorem wrongGo_step {l : List ByteArray} {k : Nat} {m : ByteArray} (h : l[k]? = some m) : wrongGo l (l.drop k) k = (!methodB m || inL (l.take k) m || wrongGo l (l.drop (k + 1)) (k + 1)) := by
 rw [drop_some h]; rfl
theorem row_take {w : World} {A : Option Addr} {l : List ByteArray} (h : Row w A (l.map .string)) (k : Nat) : Row w A ((l.take k).map .string) := fun hl => by
 rw [List.length_map, List.length_take] at hl
 obtain ⟨b, off, e, hb, hc⟩ := h (by rw [List.length_map]; omega)
 refine ⟨b, off, e, hb, fun j v hv => hc j v ?_⟩
 rw [List.map_take, List.getElem?_take] at hv
 split at hv
 ·exact hv
 ·cases hv
theorem take_len {l : List ByteArray} {k : Nat} (h : k < l.length) : (l.take k).length = k := by rw [List.length_take]; omega
set_option maxRecDepth 20000 in
set_option maxHeartbeats 1000000 in
theorem wrong_any (x : Rv) (t : Tl) (w : World) (hx : MOne w x) (hs : Slim x.2) (hg : GlobR w) :
  Calls Tryz.prog 34 #[.agg #[.slice x.1.1 x.2.1.length x.1.2, .string x.2.2, .slice t.A t.n t.c, .int .i64 t.k, .string t.x, .string t.y, .string t.z, .int .i64 t.s, .int .i64 t.m]] w fun e w' => e = .returned (.int .i64 (wrongP x.2)) ∧ Below w.heap.size w w' := by
 obtain ⟨⟨A, c⟩, l, p⟩ := x
 obtain ⟨hr, hc⟩ := hx
 obtain ⟨hp, hn, hm⟩ := hs
 dsimp only at hr hc hp hn hm ⊢
 have HCK := Lib.hid (fun W => Check_any p W (by omega))
 have HWP := Lib.hid (show wrongP (l, p) = if (checkP p).2 ≠ 0 then 130 else if wrongM l = true then 141 else 0 from rfl)
 have HB0 := Lib.hid ((Below.refl w.heap.size w).alloc (Nat.le_refl _) (.cells #[.slice A l.length c, .string p, .slice t.A t.n t.c, .int .i64 t.k, .string t.x, .string t.y, .string t.z, .int .i64 t.s, .int .i64 t.m] 38))
 generalize checkP p = cp at *
 obtain ⟨c0, c1⟩ := cp
 generalize wrongP (l, p) = res at *
 dsimp only at HWP
 by_cases h0 : c1 = 0
 ·subst h0
  have HW2 := Lib.hid (HWP.out.trans (if_neg (fun h => h rfl)))
  clear HWP
  have HR := Lib.hid (fun (W : World) (h : Below w.heap.size w W) => hr.below h)
  have HG := Lib.hid (fun (W : World) (h : Below w.heap.size w W) => hg.beyond h)
  have HM := Lib.hid hm
  clear hr hg hm hp
  go_enter Tryz.func34, Tryz.ntmps34
  go_wp2_with fail
  refine (HCK.out _).mono ?_
  rintro e w1 ⟨rfl, hb⟩
  unfold chkVal
  dsimp only
  have hb1 : Below w.heap.size w w1 := HB0.out.trans (hb.mono (by simp))
  have e0 : w1.cell? ⟨w.heap.size, 0, none⟩ = some (.slice A l.length c) := by rw [hb.cell (p := ⟨w.heap.size, 0, none⟩) (by simp), World.cell?_alloc_new]; rfl
  have HB1 := Lib.hid hb1
  have hlt1 : w.heap.size < w1.heap.size := by have := hb.size; simp at this; omega
  have HE0 := Lib.hid e0
  clear hb hb1 HCK HB0
  go_wp2
  go_loop [18] (fun i => ∃ k : Nat, k ≤ l.length ∧ i = .int .i64 k ∧ Hid (wrongM l = wrongGo l (l.drop k) k)) (fun i => l.length - (RowKit.intOf i).toNat)
  case atStart => exact ⟨0, by omega, rfl, Lib.hid rfl⟩
  case round =>
   obtain ⟨k, hk, rfl, HK⟩ := hrel
   by_cases hlt : k < l.length
   ·obtain ⟨m, hmk⟩ := some_of_lt hlt
    obtain ⟨b, off, rfl, hbl, hc0⟩ := (HR.out w1 HB1.out).str hmk
    have hmz := HM.out m (List.mem_of_getElem? hmk)
    have HST := Lib.hid (wrongGo_step hmk)
    have HIM := Lib.hid (IsMethod_any m w1 (by omega) (HG.out w1 HB1.out))
    have HCO := Lib.hid (Contains_any (some ⟨b, off, none⟩) c (l.take k) m w1 (row_take (HR.out w1 HB1.out) k) (by rw [take_len hlt]; omega))
    rw [take_len hlt] at HCO
    have hkc : (k : Int) ≤ (c : Int) := by omega
    clear hmk hmz
    cases h1 : methodB m
    ·rw [h1] at HIM
     have HV := Lib.hid (show res = 141 by rw [HW2.out, HK.out, HST.out, h1]; rfl)
     clear h1 HST HK HCO
     go_wp2_with fail
     refine HIM.out.mono ?_
     rintro e w2 ⟨rfl, rfl⟩
     go_wp2
     go_ret
     exact ⟨ret_int HV.out.symm, HB1.out⟩
    ·rw [h1] at HIM
     cases h2 : inL (l.take k) m
     ·rw [h2] at HCO
      have HK2 := Lib.hid (show wrongM l = wrongGo l (l.drop (k + 1)) (k + 1) by rw [HK.out, HST.out, h1, h2]; rfl)
      clear h1 h2 HST HK
      go_wp2_with fail
      refine HIM.out.mono ?_
      rintro e w2 ⟨rfl, rfl⟩
      go_wp2_with fail
      refine HCO.out.mono ?_
      rintro e w2 ⟨rfl, rfl⟩
      go_wp2
      go_round
      case rel => exact ⟨k + 1, by omega, by go_num, HK2⟩
      case measure => simp [RowKit.intOf]; omega
     ·rw [h2] at HCO
      have HV := Lib.hid (show res = 141 by rw [HW2.out, HK.out, HST.out, h1, h2]; rfl)
      clear h1 h2 HST HK
      go_wp2_with fail
      refine HIM.out.mono ?_
      rintro e w2 ⟨rfl, rfl⟩
      go_wp2_with fail
      refine HCO.out.mono ?_
      rintro e w2 ⟨rfl, rfl⟩
      go_wp2
      go_ret
      exact ⟨ret_int HV.out.symm, HB1.out⟩
   ·obtain rfl : k = l.length := by omega
    have HV := Lib.hid (show res = 0 by rw [HW2.out, HK.out, List.drop_length]; rfl)
    clear HK
    go_wp2
    go_ret
    exact ⟨ret_int HV.out.symm, HB1.out⟩
 ·have HV := Lib.hid (HWP.out.trans (if_pos h0))
  have hne : (c1 != 0) = true := by simpa using h0
  clear HWP h0
  go_enter Tryz.func34, Tryz.ntmps34
  go_wp2_with fail
  refine (HCK.out _).mono ?_
  rintro e w1 ⟨rfl, hb⟩
  unfold chkVal
  dsimp only
  have hb1 : Below w.heap.size w w1 := HB0.out.trans (hb.mono (by simp))
  clear hb
  go_wp2
  go_ret
  exact ⟨ret_int HV.out.symm, hb1⟩
set_option maxRecDepth 20000 in
set_option maxHeartbeats 1000000 in
theorem rWrong_any (A : Option Addr) (c : Nat) (l : List ByteArray) (w : World) (hr : Row w A (l.map .string)) (hc : l.length ≤ c) (hn : l.length ≤ 1048576) (hm : ∀ m ∈ l, m.size ≤ 1048576) :
  Calls Tryz.prog 41 #[.slice A l.length c] w fun e w' => e = .returned (.bool (wrongM l)) ∧ w = w' := by
 have HM := Lib.hid hm
 obtain ⟨res, hres⟩ : ∃ res, wrongM l = res := ⟨_, rfl⟩
 have HW2 := Lib.hid hres
 rw [hres]
 clear hm hres
 go_enter Tryz.func41, Tryz.ntmps41
 go_wp2
 go_loop [7] (fun i => ∃ k : Nat, k ≤ l.length ∧ i = .int .i64 k ∧ Hid (res = wrongGo l (l.drop k) k)) (fun i => l.length - (RowKit.intOf i).toNat)
 case atStart => exact ⟨0, by omega, rfl, Lib.hid HW2.out.symm⟩
 case round =>
  obtain ⟨k, hk, rfl, HK⟩ := hrel
  by_cases hlt : k < l.length
  ·obtain ⟨m, hmk⟩ := some_of_lt hlt
   obtain ⟨b, off, rfl, hbl, hc0⟩ := hr.str hmk
   have hmz := HM.out m (List.mem_of_getElem? hmk)
   have HST := Lib.hid (wrongGo_step hmk)
   have HIM := Lib.hid (rIsMethod_any m w (by omega))
   have HCO := Lib.hid (rInL_any (some ⟨b, off, none⟩) c (l.take k) m w (row_take hr k) (by rw [take_len hlt]; omega))
   rw [take_len hlt] at HCO
   have hkc : (k : Int) ≤ (c : Int) := by omega
   clear hmk hmz
   cases h1 : methodB m
   ·rw [h1] at HIM
    have HV := Lib.hid (show res = true by rw [HK.out, HST.out, h1]; rfl)
    clear h1 HST HK HCO
    go_wp2_with fail
    refine HIM.out.mono ?_
    rintro e w2 ⟨rfl, rfl⟩
    go_wp2
    go_ret
    exact ⟨ret_bool HV.out.symm, rfl⟩
   ·rw [h1] at HIM
    cases h2 : inL (l.take k) m
    ·rw [h2] at HCO
     have HK2 := Lib.hid (show res = wrongGo l (l.drop (k + 1)) (k + 1) by rw [HK.out, HST.out, h1, h2]; rfl)
     clear h1 h2 HST HK
     go_wp2_with fail
     refine HIM.out.mono ?_
     rintro e w2 ⟨rfl, rfl⟩
     go_wp2_with fail
     refine HCO.out.mono ?_
     rintro e w2 ⟨rfl, rfl⟩
     go_wp2
     go_round
     case rel => exact ⟨k + 1, by omega, by go_num, HK2⟩
     case measure => simp [RowKit.intOf]; omega
    ·rw [h2] at HCO
     have HV := Lib.hid (show res = true by rw [HK.out, HST.out, h1, h2]; rfl)
     clear h1 h2 HST HK
     go_wp2_with fail
     refine HIM.out.mono ?_
     rintro e w2 ⟨rfl, rfl⟩
     go_wp2_with fail
     refine HCO.out.mono ?_
     rintro e w2 ⟨rfl, rfl⟩
     go_wp2
     go_ret
     exact ⟨ret_bool HV.out.symm, rfl⟩
  ·obtain rfl : k = l.length := by omega
   have HV := Lib.hid (show res = false by rw [HK.out, List.drop_length]; rfl)
   clear HK
   go_wp2
   go_ret
   exact ⟨ret_bool HV.out.symm, rfl⟩
theorem clash1_any (bb : Nat) (B : Option Addr) (d : Nat) (lb : List ByteArray) (m : ByteArray) (w : World) (hc : w.cell? ⟨bb, 0, none⟩ = some (.slice B lb.length d)) (hr : Row w B (lb.map .string)) (hl : lb.length ≤ 1048576) :
  Calls Tryz.prog 74 #[.string m, .pointer (some ⟨bb, 0, none⟩)] w fun e w' => e = .returned (.bool (inL lb m)) ∧ w = w' := by
 have HC := Lib.hid (Contains_any B d lb m w hr (by omega))
 go_enter Tryz.func74, Tryz.ntmps74
 go_wp2_with fail
 refine HC.out.mono ?_
 rintro e w' ⟨rfl, rfl⟩
 go_wp2
 go_ret
 exact ⟨rfl, rfl⟩
def idxI : Option Nat → Int
 | some i => (i : Int)
 | none => -1
set_option maxRecDepth 20000 in
set_option maxHeartbeats 1000000 in
theorem IndexM_any (bb : Nat) (B : Option Addr) (d : Nat) (lb : List ByteArray) (A : Option Addr) (c : Nat) (l : List ByteArray) (w : World) (hc : w.cell? ⟨bb, 0, none⟩ = some (.slice B lb.length d)) (hr : Row w B (lb.map .string)) (hl : lb.length ≤ 1048576) (ha : Row w A (l.map .string)) (hla : l.length ≤ 1048576) :
  Calls Tryz.prog 112 #[.slice A l.length c, .func (.func 74) #[] #[.pointer (some ⟨bb, 0, none⟩)]] w fun e w' => e = .returned (.int .i64 (idxI (l.findIdx? (inL lb)))) ∧ w = w' := by
 have hcf : ∀ args w, (callFunc 74 args).run Tryz.prog w = .ok (.enter 74 args) w := fun args w => Tryz.call74 args w
 have HF := Lib.hid (fun (m : ByteArray) => clash1_any bb B d lb m w hc hr hl)
 clear hc hr
 generalize Value.pointer (some ⟨bb, 0, none⟩) = cap at *
 go_enter Tryz.func112, Tryz.ntmps112
 go_wp2
 go_loop [8] (fun i => ∃ k : Nat, k ≤ l.length ∧ i = .int .i64 k ∧ Hid (∀ j x, j < k → l[j]? = some x → inL lb x = false)) (fun i => l.length - (RowKit.intOf i).toNat)
 case atStart => exact ⟨0, by omega, rfl, Lib.hid (fun j x h => absurd h (Nat.not_lt_zero _))⟩
 case round =>
  obtain ⟨k, hk, rfl, HK⟩ := hrel
  by_cases hlt : k < l.length
  ·obtain ⟨x, hx⟩ := some_of_lt hlt
   obtain ⟨b, off, rfl, hb, f0⟩ := ha.str hx
   have HC := Lib.hid (HF.out x)
   have HX := Lib.hid hx
   clear hx
   cases hp : inL lb x
   ·have HK2 : Hid (∀ j x, j < k + 1 → l[j]? = some x → inL lb x = false) := Lib.hid (fun j y hj hy => by
     rcases Nat.lt_or_ge j k with h | h
     ·exact HK.out j y h hy
     ·obtain rfl : j = k := by omega
      have := HX.out.symm.trans hy
      obtain rfl := Option.some.inj this
      exact hp)
    rw [hp] at HC
    clear hp HK
    go_wp2_with fail
    refine HC.out.mono ?_
    rintro e w1 ⟨rfl, rfl⟩
    clear f0 HC
    go_wp2
    go_round
    case rel => exact ⟨k + 1, by omega, by go_num, HK2⟩
    case measure => simp [RowKit.intOf]; omega
   ·have HV := Lib.hid (show l.findIdx? (inL lb) = some k from List.findIdx?_eq_some_iff_getElem.2 ⟨hlt, by have := (List.getElem?_eq_some_iff.1 HX.out).2; rw [this]; exact hp, fun j hj => by
     have := HK.out j l[j] hj (List.getElem?_eq_getElem (by omega))
     rw [this]
     simp⟩)
    rw [hp] at HC
    clear hp HK
    go_wp2_with fail
    refine HC.out.mono ?_
    rintro e w1 ⟨rfl, rfl⟩
    clear f0 HC
    go_wp2
    go_ret
    exact ⟨ret_int (by rw [HV.out]; rfl), rfl⟩
  ·obtain rfl : k = l.length := by omega
   have HV := Lib.hid (show l.findIdx? (inL lb) = none from List.findIdx?_eq_none_iff.2 fun x hx => by
    obtain ⟨j, hj, rfl⟩ := List.getElem_of_mem hx
    exact HK.out j _ hj (List.getElem?_eq_getElem hj))
   go_wp2
   go_ret
   exact ⟨ret_int (by rw [HV.out]; rfl), rfl⟩
theorem idx_any (l : List ByteArray) (f : ByteArray → Bool) : decide (0 ≤ idxI (l.findIdx? f)) = l.any f := by
 cases h : l.findIdx? f with
 | none =>
  have h2 := List.findIdx?_eq_none_iff.1 h
  have : l.any f = false := by
   rw [List.any_eq_false]
   intro x hx
   simp [h2 x hx]
  rw [this]
  rfl
 | some i =>
  obtain ⟨hi, h2, _⟩ := List.findIdx?_eq_some_iff_getElem.1 h
  have : l.any f = true := List.any_eq_true.2 ⟨_, List.getElem_mem hi, h2⟩
  rw [this]
  exact decide_eq_true (by simp [idxI])
set_option maxRecDepth 20000 in
theorem ContainsM_any (bb : Nat) (B : Option Addr) (d : Nat) (lb : List ByteArray) (A : Option Addr) (c : Nat) (l : List ByteArray) (w : World) (hc : w.cell? ⟨bb, 0, none⟩ = some (.slice B lb.length d)) (hr : Row w B (lb.map .string)) (hl : lb.length ≤ 1048576) (ha : Row w A (l.map .string)) (hla : l.length ≤ 1048576) :
  Calls Tryz.prog 73 #[.slice A l.length c, .func (.func 74) #[] #[.pointer (some ⟨bb, 0, none⟩)]] w fun e w' => e = .returned (.bool (sharedM l lb)) ∧ w = w' := by
 have HI := Lib.hid (IndexM_any bb B d lb A c l w hc hr hl ha hla)
 have HV := Lib.hid (idx_any l (inL lb))
 have HS := Lib.hid (show sharedM l lb = l.any (inL lb) from rfl)
 generalize sharedM l lb = sh at *
 obtain ⟨o, ho⟩ : ∃ o, o = idxI (l.findIdx? (inL lb)) := ⟨_, rfl⟩
 rw [← ho] at HI HV
 clear ho hc hr ha
 go_enter Tryz.func73, Tryz.ntmps73
 go_wp2_with fail
 refine HI.out.mono ?_
 rintro e w' ⟨rfl, rfl⟩
 go_wp2
 go_ret
 exact ⟨ret_bool (by rw [HS.out, ← HV.out]), rfl⟩
set_option maxRecDepth 20000 in
set_option maxHeartbeats 1000000 in
theorem clash_any (x y : Rv) (t t' : Tl) (w : World) (hx : MOne w x) (hy : MOne w y) (hs : Slim x.2) (ht : Slim y.2) :
  Calls Tryz.prog 35 #[.agg #[.slice x.1.1 x.2.1.length x.1.2, .string x.2.2, .slice t.A t.n t.c, .int .i64 t.k, .string t.x, .string t.y, .string t.z, .int .i64 t.s, .int .i64 t.m], .agg #[.slice y.1.1 y.2.1.length y.1.2, .string y.2.2, .slice t'.A t'.n t'.c, .int .i64 t'.k, .string t'.x, .string t'.y, .string t'.z, .int .i64 t'.s, .int .i64 t'.m]] w fun e w' => e = .returned (.int .i64 (clashP x.2 y.2)) ∧ Below w.heap.size w w' := by
 have hmf : ∀ (fn : Fn) (first cap : Array Value) (w : World), (Instr.makeFunc fn first cap).run Tryz.prog w = .ok (.func fn first cap) w := fun _ _ _ _ => rfl
 obtain ⟨⟨A, c⟩, l, p⟩ := x
 obtain ⟨⟨B, d⟩, m, q⟩ := y
 obtain ⟨hr, _⟩ := hx
 obtain ⟨hr2, _⟩ := hy
 obtain ⟨hp, hn, _⟩ := hs
 obtain ⟨hq, hn2, _⟩ := ht
 dsimp only at hr hr2 hp hn hq hn2 ⊢
 have HCM := Lib.hid (fun W => Cmp_any p q W (by omega) (by omega))
 have HCL := Lib.hid (show clashP (l, p) (m, q) = if p ≠ q then (if cmpR p q = (0, 0) then 142 else 0) else if ((decide (l.length = 0) && decide (m.length = 0)) || sharedM l m) = true then 131 else 0 from rfl)
 have hb0 : Below w.heap.size w ((w.alloc (.cells #[.slice A l.length c, .string p, .slice t.A t.n t.c, .int .i64 t.k, .string t.x, .string t.y, .string t.z, .int .i64 t.s, .int .i64 t.m] 38)).alloc (.cells #[.slice B m.length d, .string q, .slice t'.A t'.n t'.c, .int .i64 t'.k, .string t'.x, .string t'.y, .string t'.z, .int .i64 t'.s, .int .i64 t'.m] 38)) := ((Below.refl _ w).alloc (Nat.le_refl _) _).alloc (by simp) _
 have HCS := Lib.hid (fun c0 => ContainsM_any (w.heap.size + 1) B d m A c l ((w.alloc (.cells #[.slice A l.length c, .string p, .slice t.A t.n t.c, .int .i64 t.k, .string t.x, .string t.y, .string t.z, .int .i64 t.s, .int .i64 t.m] 38)).alloc (.cells #[.slice B m.length d, .string q, .slice t'.A t'.n t'.c, .int .i64 t'.k, .string t'.x, .string t'.y, .string t'.z, .int .i64 t'.s, .int .i64 t'.m] 38)) c0 ((hr2.alloc _).alloc _) hn2 ((hr.alloc _).alloc _) hn)
 have HB0 := Lib.hid hb0
 generalize clashP (l, p) (m, q) = res at *
 generalize cmpR p q = cr at *
 obtain ⟨n, e⟩ := cr
 generalize sharedM l m = sh at *
 clear hb0 hr hr2
 by_cases hpq : p = q
 ·subst hpq
  have hc : (p.toList != p.toList) = false := by simp
  have HL2 := Lib.hid (HCL.out.trans (if_neg (fun h => h rfl)))
  clear HCL HCM
  by_cases hl0 : l.length = 0
  ·by_cases hm0 : m.length = 0
   ·have hi1 : ((l.length : Int) == 0) = true := beq_iff_eq.2 (by omega)
    have hi2 : ((m.length : Int) == 0) = true := beq_iff_eq.2 (by omega)
    have HV := Lib.hid (show res = 131 by rw [HL2.out, decide_eq_true hl0, decide_eq_true hm0]; rfl)
    clear HL2 hl0 hm0
    go_enter Tryz.func35, Tryz.ntmps35
    go_wp2_with fail
    refine (HCS.out (by first | rfl | simp)).mono ?_
    rintro e' w' ⟨rfl, rfl⟩
    go_wp2
    go_ret
    exact ⟨ret_int HV.out.symm, HB0.out⟩
   ·have hi1 : ((l.length : Int) == 0) = true := beq_iff_eq.2 (by omega)
    have hi2 : ((m.length : Int) == 0) = false := beq_eq_false_iff_ne.2 (by omega)
    have HV := Lib.hid (show res = if sh = true then 131 else 0 by rw [HL2.out, decide_eq_false hm0, Bool.and_false, Bool.false_or])
    clear HL2 hl0 hm0
    cases sh
    all_goals
     go_enter Tryz.func35, Tryz.ntmps35
     go_wp2_with fail
     refine (HCS.out (by first | rfl | simp)).mono ?_
     rintro e' w' ⟨rfl, rfl⟩
     go_wp2
     go_ret
     exact ⟨ret_int HV.out.symm, HB0.out⟩
  ·have hi1 : ((l.length : Int) == 0) = false := beq_eq_false_iff_ne.2 (by omega)
   have HV := Lib.hid (show res = if sh = true then 131 else 0 by rw [HL2.out, decide_eq_false hl0, Bool.false_and, Bool.false_or])
   clear HL2 hl0
   cases sh
   all_goals
    go_enter Tryz.func35, Tryz.ntmps35
    go_wp2_with fail
    refine (HCS.out (by first | rfl | simp)).mono ?_
    rintro e' w' ⟨rfl, rfl⟩
    go_wp2
    go_ret
    exact ⟨ret_int HV.out.symm, HB0.out⟩
 ·have hc : (p.toList != q.toList) = true := by simp [bne, eq_str, hpq]
  have hc2 : (p.toList == q.toList) = false := by rw [eq_str]; exact decide_eq_false hpq
  have HL2 := Lib.hid (HCL.out.trans (if_pos hpq))
  clear HCL HCS hpq
  have hbx : ∀ w', Below (w.heap.size + 2) ((w.alloc (.cells #[.slice A l.length c, .string p, .slice t.A t.n t.c, .int .i64 t.k, .string t.x, .string t.y, .string t.z, .int .i64 t.s, .int .i64 t.m] 38)).alloc (.cells #[.slice B m.length d, .string q, .slice t'.A t'.n t'.c, .int .i64 t'.k, .string t'.x, .string t'.y, .string t'.z, .int .i64 t'.s, .int .i64 t'.m] 38)) w' → Below w.heap.size w w' := fun w' h => HB0.out.trans (h.mono (by omega))
  have HBX := Lib.hid hbx
  clear hbx
  by_cases he : e = 0
  ·by_cases h0 : n = 0
   ·subst he
    subst h0
    have HV := Lib.hid (show res = 142 by rw [HL2.out]; rfl)
    clear HL2
    go_enter Tryz.func35, Tryz.ntmps35
    go_wp2_with fail
    refine (HCM.out _).mono ?_
    rintro e' w' ⟨rfl, hb⟩
    unfold chkVal
    dsimp only
    have HB := Lib.hid (HBX.out w' (by simpa using hb))
    clear hb
    go_wp2
    go_ret
    exact ⟨ret_int HV.out.symm, HB.out⟩
   ·subst he
    have hi : (n == 0) = false := by simpa using h0
    have HV := Lib.hid (show res = 0 by rw [HL2.out, if_neg (fun h => h0 (congrArg Prod.fst h))])
    clear HL2 h0
    go_enter Tryz.func35, Tryz.ntmps35
    go_wp2_with fail
    refine (HCM.out _).mono ?_
    rintro e' w' ⟨rfl, hb⟩
    unfold chkVal
    dsimp only
    have HB := Lib.hid (HBX.out w' (by simpa using hb))
    clear hb
    go_wp2
    go_ret
    exact ⟨ret_int HV.out.symm, HB.out⟩
  ·have hi : (e == 0) = false := by simpa using he
   have HV := Lib.hid (show res = 0 by rw [HL2.out, if_neg (fun h => he (congrArg Prod.snd h))])
   clear HL2 he
   go_enter Tryz.func35, Tryz.ntmps35
   go_wp2_with fail
   refine (HCM.out _).mono ?_
   rintro e' w' ⟨rfl, hb⟩
   unfold chkVal
   dsimp only
   have HB := Lib.hid (HBX.out w' (by simpa using hb))
   clear hb
   go_wp2
   go_ret
   exact ⟨ret_int HV.out.symm, HB.out⟩
end Go.Proofs.YtiohmnhbmmhnhaaGreatDoor
