/-
  CjO, CjL, without what the claim does not reach.
-/
import Derived.Test.YtbnafbdhomdcoaaGreatDoorZm16
import Derived.Test.YtbnafbdhomdcoaaGreatDoorZm17
import Derived.Test.YtbnafbdhomdcoaaGreatDoorZTgNo
import Derived.Test.YtbnafbdhomdcoaaGreatDoorZCjP
namespace Go.Proofs.YtbnafbdhomdcoaaGreatDoor
open Go.RowKit Go.Shelf Go.Lib
theorem one_box {w w1 : World} {o : Obj} {n : Nat} (h : Below n (w.alloc o) w1) (hn : n = (w.alloc o).heap.size) : Below w.heap.size w w1 := by
 subst hn
 exact ((Below.refl _ w).alloc (Nat.le_refl _) _).trans (h.mono (by simp))
def onlyVal (o : Option ByteArray) : Value := .tuple #[.string (o.getD ⟨#[]⟩), .bool o.isSome]
set_option maxRecDepth 20000 in
set_option maxHeartbeats 2000000 in
theorem only_any (r : Rq) (FA : Option Addr) (fc : Nat) (TA : Option Addr) (tc : Nat) (name : ByteArray) (w : World) (hr : Row w FA (flat r.fields)) (hf : FitQ r) (hn : name.size ≤ maxLen) :
  Calls Tryz.prog 104 #[rqV r FA fc TA tc, .string name] w fun e w' => e = .returned (onlyVal (onlyP r.fields name)) ∧ Below w.heap.size w w' := by
 have hl : r.fields.length ≤ 4398046511104 := by have := bulk_len r.fields; have := hf.fields; omega
 have HA := Lib.hid (fun (w' : World) (hb : Below w.heap.size w w') => All_any FA fc r.fields name w' (hr.below hb) hl (bulk_wide hf.fields) hn)
 have hlen := Nat.le_trans (allV_length r.fields name) hl
 unfold rqV onlyP
 clear hl
 cases hV : allV r.fields name with
 | nil =>
  rw [hV] at HA
  clear hV hlen
  go_enter Tryz.func104, Tryz.ntmps104
  go_wp2_with fail
  refine (HA.out _ ((Below.refl _ w).alloc (Nat.le_refl _) _)).mono ?_
  rintro e w1 ⟨A1, c1, rfl, _, b1⟩
  have hbw := one_box b1 rfl
  clear b1
  go_wp2
  go_ret2
  exact ⟨rfl, hbw⟩
 | cons v vs =>
  rw [hV] at HA hlen
  simp only [List.length_cons] at hlen
  clear hV
  cases vs with
  | nil =>
   go_enter Tryz.func104, Tryz.ntmps104
   go_wp2_with fail
   refine (HA.out _ ((Below.refl _ w).alloc (Nat.le_refl _) _)).mono ?_
   rintro e w1 ⟨A1, c1, rfl, own, b1⟩
   obtain ⟨b, off, rfl, _, hc⟩ := (own_row own).str (k := 0) (x := v) rfl
   have hbw := one_box b1 rfl
   clear b1 own
   rw [Nat.add_zero] at hc
   go_wp2
   go_ret2
   exact ⟨rfl, hbw⟩
  | cons u vs =>
   have hne : ((vs.length : Int) + 1 + 1 != 1) = true := by simp; omega
   go_enter Tryz.func104, Tryz.ntmps104
   go_wp2_with fail
   refine (HA.out _ ((Below.refl _ w).alloc (Nat.le_refl _) _)).mono ?_
   rintro e w1 ⟨A1, c1, rfl, _, b1⟩
   have hbw := one_box b1 rfl
   clear b1
   rw [List.length_cons, List.length_cons]
   go_wp2
   go_ret2
   exact ⟨rfl, hbw⟩
set_option maxRecDepth 20000 in
theorem works1_any (m : Mid) (A : Option Addr) (c : Nat) (w : World) (hm : FitM m) (hg : Glob w) :
  Calls Tryz.prog 53 #[midV m A c] w fun e w' => e = .returned (.bool (isTok m.name && isValue m.value)) ∧ Below w.heap.size w w' := by
 have HT := Lib.hid (fun w hg => IsToken_any m.name w hm.nameL hg)
 have HV := Lib.hid (fun w => IsValue_any m.value w hm.valueL)
 unfold midV
 cases h1 : isTok m.name
 ·rw [h1] at HT
  go_enter Tryz.func53, Tryz.ntmps53
  go_wp2_with fail
  refine (HT.out _ (hg.beyond ((Below.refl _ w).alloc (Nat.le_refl _) _))).mono ?_
  rintro e w1 ⟨rfl, rfl⟩
  go_wp2
  go_ret
  exact ⟨rfl, (Below.refl _ w).alloc (Nat.le_refl _) _⟩
 ·rw [h1] at HT
  go_enter Tryz.func53, Tryz.ntmps53
  go_wp2_with fail
  refine (HT.out _ (hg.beyond ((Below.refl _ w).alloc (Nat.le_refl _) _))).mono ?_
  rintro e w1 ⟨rfl, rfl⟩
  go_wp2_with fail
  refine (HV.out _).mono ?_
  rintro e w1 ⟨rfl, b1⟩
  have hbw := one_box b1 rfl
  clear b1
  go_wp2
  go_ret
  exact ⟨rfl, hbw⟩
set_option maxRecDepth 20000 in
theorem works2_any (m : Mid) (A : Option Addr) (c : Nat) (w : World) (hm : FitM m) (hg : Glob w) :
  Calls Tryz.prog 58 #[midV m A c] w fun e w' => e = .returned (.bool (isTok m.name)) ∧ Below w.heap.size w w' := by
 have HT := Lib.hid (fun w hg => IsToken_any m.name w hm.nameL hg)
 unfold midV
 go_enter Tryz.func58, Tryz.ntmps58
 go_wp2_with fail
 refine (HT.out _ (hg.beyond ((Below.refl _ w).alloc (Nat.le_refl _) _))).mono ?_
 rintro e w1 ⟨rfl, rfl⟩
 go_wp2
 go_ret
 exact ⟨rfl, (Below.refl _ w).alloc (Nat.le_refl _) _⟩
set_option maxRecDepth 20000 in
theorem works4_any (m : Mid) (A : Option Addr) (c : Nat) (w : World) :
  Calls Tryz.prog 63 #[midV m A c] w fun e w' => e = .returned (.bool (decide (0 ≤ m.n))) ∧ Below w.heap.size w w' := by
 unfold midV
 go_enter Tryz.func63, Tryz.ntmps63
 go_wp2
 go_ret
 exact ⟨rfl, (Below.refl _ w).alloc (Nat.le_refl _) _⟩
set_option maxRecDepth 20000 in
theorem works6_any (m : Mid) (A : Option Addr) (c : Nat) (w : World) (hm : FitM m) :
  Calls Tryz.prog 72 #[midV m A c] w fun e w' => e = .returned (.bool (!decide (m.value.size = 0) && isValue m.value)) ∧ Below w.heap.size w w' := by
 have HV := Lib.hid (fun w => IsValue_any m.value w hm.valueL)
 have he : m.value.toList.isEmpty = decide (m.value.size = 0) := empty_eq m.value
 unfold midV
 by_cases h0 : m.value.size = 0
 ·rw [decide_eq_true h0] at he ⊢
  go_enter Tryz.func72, Tryz.ntmps72
  go_wp2
  go_ret
  exact ⟨rfl, (Below.refl _ w).alloc (Nat.le_refl _) _⟩
 ·rw [decide_eq_false h0] at he ⊢
  go_enter Tryz.func72, Tryz.ntmps72
  go_wp2_with fail
  refine (HV.out _).mono ?_
  rintro e w1 ⟨rfl, b1⟩
  have hbw := one_box b1 rfl
  clear b1
  go_wp2
  go_ret
  exact ⟨rfl, hbw⟩
set_option maxRecDepth 20000 in
theorem isPrefix_any (s : ByteArray) (w : World) (hs : s.size ≤ 1048576) (hg : GlobC w) :
  Calls Tryz.prog 66 #[.string s] w fun e w' => e = .returned (.bool (prefixOk s)) ∧ Below w.heap.size w w' := by
 have HN := Lib.hid (fun w hg => T5.Normal_any s w (by omega) hg)
 have HS := Lib.hid (fun w => T5.Suffix_any s 47 w (by omega))
 rw [show ((47 : UInt8).toNat : Int) = 47 from rfl, show T5.ends s 47 = tailB s 47 from rfl] at HS
 unfold T5.normVal at HN
 unfold prefixOk
 generalize hr : T5.normR s = r at *
 obtain ⟨t, e0⟩ := r
 by_cases h0 : e0 = 0
 ·subst h0
  by_cases ht : t = s
  ·subst ht
   cases hz : tailB t 47
   all_goals
    rw [hz] at HS
    go_enter Tryz.func66, Tryz.ntmps66
    go_wp2_with fail
    refine (HN.out _ hg.five).mono ?_
    rintro e w1 ⟨rfl, b1⟩
    go_wp2_with fail
    refine (HS.out _).mono ?_
    rintro e w2 ⟨rfl, rfl⟩
    go_wp2
    go_ret
    exact ⟨by simp, b1⟩
  ·have hq : decide (((t, (0 : Int)) : ByteArray × Int) = (s, 0)) = false := decide_eq_false fun h => ht (Prod.mk.inj h).1
   have hl : (t.toList == s.toList) = false := beq_eq_false_iff_ne.2 fun h => ht (bytes_ext (by rw [← Lib.toList_data, ← Lib.toList_data]; exact h))
   go_enter Tryz.func66, Tryz.ntmps66
   go_wp2_with fail
   refine (HN.out _ hg.five).mono ?_
   rintro e w1 ⟨rfl, b1⟩
   go_wp2
   go_ret
   exact ⟨by rw [hq]; rfl, b1⟩
 ·have hq : decide (((t, e0) : ByteArray × Int) = (s, 0)) = false := decide_eq_false fun h => h0 (Prod.mk.inj h).2
  have hb : (e0 == 0) = false := beq_eq_false_iff_ne.2 h0
  go_enter Tryz.func66, Tryz.ntmps66
  go_wp2_with fail
  refine (HN.out _ hg.five).mono ?_
  rintro e w1 ⟨rfl, b1⟩
  go_wp2
  go_ret
  exact ⟨by rw [hq]; rfl, b1⟩
end Go.Proofs.YtbnafbdhomdcoaaGreatDoor
namespace Go.Proofs.YtbnafbdhomdcoaaGreatDoor
theorem tail_at {α : Type} {l : List α} {k : Nat} {x : α} (h : l[k]? = some x) : l.drop k = x :: l.drop (k + 1) := by
 obtain ⟨hk, rfl⟩ := List.getElem?_eq_some_iff.1 h
 exact List.drop_eq_getElem_cons hk
theorem fresh_at {l : List ByteArray} {k : Nat} {s : ByteArray} (hk : l[k]? = some s) : freshL (l.take k) (l.drop k) = ((isTok s && !isIn (l.take k) s) && freshL (l.take (k + 1)) (l.drop (k + 1))) := by
 have e : l.take (k + 1) = l.take k ++ [s] := by
  obtain ⟨h, rfl⟩ := List.getElem?_eq_some_iff.1 hk
  exact List.take_succ_eq_append_getElem h
 rw [tail_at hk, e]
 rfl
theorem fresh_end (l : List ByteArray) : freshL (l.take l.length) (l.drop l.length) = true := by
 rw [List.drop_length]
 rfl
theorem all_at {α : Type} {P : α → Bool} {l : List α} {k : Nat} {x : α} (h : l[k]? = some x) : (l.drop k).all P = (P x && (l.drop (k + 1)).all P) := by
 rw [tail_at h, List.all_cons]
theorem all_end {α : Type} (P : α → Bool) (l : List α) : (l.drop l.length).all P = true := by
 rw [List.drop_length]
 rfl
def quoteTo (s : ByteArray) (k : Nat) : List UInt8 := 34 :: ((s.data.toList.take k).flatMap fun c => if c = 34 ∨ c = 92 then [92, c] else [c])
theorem quoteTo_zero (s : ByteArray) : quoteTo s 0 = [34] := by
 simp [quoteTo]
theorem quoteTo_step {s : ByteArray} {k : Nat} {c : UInt8} (h : s.data.toList[k]? = some c) : quoteTo s (k + 1) = quoteTo s k ++ (if c = 34 ∨ c = 92 then [92, c] else [c]) := by
 obtain ⟨hk, rfl⟩ := List.getElem?_eq_some_iff.1 h
 unfold quoteTo
 rw [List.take_succ_eq_append_getElem hk, List.flatMap_append]
 simp
theorem quoteTo_end (s : ByteArray) : quoteT s = ⟨(quoteTo s s.size ++ [34]).toArray⟩ := by
 unfold quoteT quoteTo
 have e : s.data.toList.take s.size = s.data.toList := List.take_of_length_le (Nat.le_refl _)
 rw [e]
theorem quoteTo_len (s : ByteArray) (k : Nat) : (quoteTo s k).length ≤ 2 * k + 1 := by
 have h : ∀ l : List UInt8, (l.flatMap fun c => if c = 34 ∨ c = 92 then [92, c] else [c]).length ≤ 2 * l.length := by
  intro l
  induction l with
  | nil => exact Nat.le_refl _
  | cons c l ih =>
   rw [List.flatMap_cons, List.length_append, List.length_cons]
   split <;> simp only [List.length_cons, List.length_nil] <;> omega
 have h1 := h (s.data.toList.take k)
 have h2 := List.length_take_le k s.data.toList
 unfold quoteTo
 rw [List.length_cons]
 omega
end Go.Proofs.YtbnafbdhomdcoaaGreatDoor
