/-
  CjG, CjX, CjQ, TgO, CjT, without what the claim does not reach.
-/
import Derived.Test.YtbnafbdhomdcoaaGreatDoorZm15
import Derived.Test.YtbnafbdhomdcoaaGreatDoorZCjP
import Derived.Lib.Strings
import Derived.Lib.Hide
import Derived.Test.YtbnafbdhomdcoaaGreatDoorZMem
import Derived.Test.YtbnafbdhomdcoaaGreatDoorZShelf
import Derived.WalkLawsBesides
import Derived.WalkSpells
import Derived.Outline
import Derived.Lib.ItoaNum
import Derived.Lib.LaidTab
import Derived.Test.YtbnafbdhomdcoaaGreatDoorZm5
namespace Go.Proofs.YtbnafbdhomdcoaaGreatDoor
open Go.RowKit Go.Shelf Go.Lib
theorem lens_sizes : ∀ l : List ByteArray, Lib.lens (l.map (·.data.toList)) = (l.map (·.size)).sum
 | [] => rfl
 | x :: l => by
  have := lens_sizes l
  simp only [List.map_cons, Lib.lens, List.sum_cons] at this ⊢
  rw [← this]
  rfl
theorem joinR_size (l : List ByteArray) : (joinR l).size ≤ (l.map (·.size)).sum + l.length * 2 := by
 cases l with
 | nil => exact Nat.zero_le _
 | cons x l =>
  have h : (joinR (x :: l)).size = (Lib.join ((x :: l).map (·.data.toList)) [44, 32]).length := rfl
  have h2 := lens_sizes (x :: l)
  rw [List.map_cons] at h2
  rw [h, List.map_cons, Lib.join_length, h2]
  simp only [List.length_map, List.length_cons, List.length_nil]
  omega
theorem allV_size {l : List Fl} {name v : ByteArray} (h : bulkF l ≤ 1048576) (hv : v ∈ allV l name) : v.size ≤ 1048576 := by
 have h1 := bulk_all l name
 have h2 : v.size ≤ ((allV l name).map (·.size)).sum := by
  clear h h1
  generalize allV l name = z at *
  induction z with
  | nil => cases hv
  | cons x z ih =>
   rw [List.map_cons, List.sum_cons]
   rcases List.mem_cons.1 hv with rfl | hv
   ·omega
   ·have := ih hv; omega
 omega
theorem onlyP_size {l : List Fl} {name v : ByteArray} (h : bulkF l ≤ 1048576) (hv : onlyP l name = some v) : v.size ≤ 1048576 := by
 unfold onlyP at hv
 split at hv
 ·rename_i x hx
  cases hv
  exact allV_size h (by rw [hx]; exact List.mem_singleton.2 rfl)
 ·cases hv
theorem list_sizes {l : List ByteArray} (h : (l.map fun s => s.size + 1).sum ≤ 1048576) : (l.map (·.size)).sum ≤ 1048576 ∧ l.length ≤ 1048576 ∧ (l.map (·.size)).sum + l.length = (l.map fun s => s.size + 1).sum := by
 have e : (l.map (·.size)).sum + l.length = (l.map fun s => s.size + 1).sum := by
  clear h
  induction l with
  | nil => rfl
  | cons x l ih => simp only [List.map_cons, List.sum_cons, List.length_cons] at ih ⊢; omega
 exact ⟨by omega, by omega, e⟩
theorem list_size {l : List ByteArray} (h : (l.map fun s => s.size + 1).sum ≤ 1048576) {s : ByteArray} (hs : s ∈ l) : s.size ≤ 1048576 := by
 have h1 := (list_sizes h).1
 clear h
 have : s.size ≤ (l.map (·.size)).sum := by
  clear h1
  induction l with
  | nil => cases hs
  | cons x l ih =>
   rw [List.map_cons, List.sum_cons]
   rcases List.mem_cons.1 hs with rfl | hs
   ·omega
   ·have := ih hs; omega
 omega
theorem quoteT_size (s : ByteArray) : (quoteT s).size ≤ 2 * s.size + 2 := by
 have h : ∀ l : List UInt8, (l.flatMap fun c => if c = 34 ∨ c = 92 then [92, c] else [c]).length ≤ 2 * l.length := by
  intro l
  induction l with
  | nil => exact Nat.le_refl _
  | cons c l ih =>
   rw [List.flatMap_cons, List.length_append, List.length_cons]
   split <;> simp only [List.length_cons, List.length_nil] <;> omega
 have e : (quoteT s).size = (34 :: (s.data.toList.flatMap fun c => if c = 34 ∨ c = 92 then [92, c] else [c]) ++ [34]).length := rfl
 have h2 := h s.data.toList
 have h3 : s.data.toList.length = s.size := rfl
 rw [e, List.length_append, List.length_cons, List.length_cons, List.length_nil]
 omega
theorem wide_cons {p : Fl} {l : List Fl} (h1 : p.1.size ≤ maxLen) (h2 : p.2.size ≤ maxLen) (hl : Wide l) : Wide (p :: l) := fun q hq => by
 rcases List.mem_cons.1 hq with rfl | hq
 ·exact ⟨h1, h2⟩
 ·exact hl q hq
theorem wide_nil : Wide [] := fun q hq => by cases hq
theorem wide_append {l m : List Fl} (h1 : Wide l) (h2 : Wide m) : Wide (l ++ m) := fun q hq => (List.mem_append.1 hq).elim (h1 q) (h2 q)
theorem wide_remove {l : List Fl} (h : Wide l) (name : ByteArray) : Wide (removeL l name) := fun q hq => h q (List.mem_filter.1 hq).1
theorem ctF_wide : ctF.1.size ≤ maxLen ∧ ctF.2.size ≤ maxLen := by unfold maxLen; decide +kernel
theorem plain_fit (n : Int) {l : List Fl} (hl : Wide l) (hn : l.length ≤ 7) : FitS 8 (plainRs n l) := ⟨by show (ctF :: l).length ≤ 8; simp; omega, wide_cons ctF_wide.1 ctF_wide.2 hl⟩
theorem acaoN_size : acaoN.size ≤ maxLen := by unfold maxLen; decide +kernel
theorem acamN_size : acamN.size ≤ maxLen := by unfold maxLen; decide +kernel
theorem acahN_size : acahN.size ≤ maxLen := by unfold maxLen; decide +kernel
theorem acmaN_size : acmaN.size ≤ maxLen := by unfold maxLen; decide +kernel
theorem cacheN_size : cacheN.size ≤ maxLen := by unfold maxLen; decide +kernel
theorem varyP_fit (m : Mid) : Wide (varyP m) ∧ (varyP m).length ≤ 1 := by
 unfold varyP
 split
 ·exact ⟨wide_nil, by simp⟩
 ·exact ⟨wide_cons (by unfold maxLen; decide +kernel) (by unfold maxLen; decide +kernel) wide_nil, by simp⟩
theorem fromP_size {m : Mid} {r : Rq} {o : ByteArray} (hr : FitQ r) (h : fromP m r = some o) : o.size ≤ 1048576 := by
 unfold fromP at h
 split at h
 ·cases h
 ·rename_i s hs
  split at h
  ·cases h; decide
  ·split at h
   ·cases h; exact onlyP_size hr.fields hs
   ·cases h
theorem flight_fit {m : Mid} {r : Rq} {x : ByteArray × ByteArray} (hm : FitM m) (hr : FitQ r) (h : flightP m r = some x) : FitS 8 (flightRs m r x) := by
 have hx : x.1.size ≤ 1048576 ∧ x.2.size ≤ 1048576 := by
  unfold flightP at h
  split at h
  ·cases h
  ·rename_i o ho
   split at h
   ·cases h
   ·rename_i v hv
    split at h
    ·cases h
     refine ⟨fromP_size hr ho, ?_⟩
     show (if m.value.size = 0 then v else m.value).size ≤ 1048576
     split
     ·exact onlyP_size hr.fields hv
     ·exact hm.value
    ·cases h
 obtain ⟨v1, v2⟩ := varyP_fit m
 have hj : (joinR (allV r.fields acrhN)).size ≤ 3145728 := by
  have h1 := joinR_size (allV r.fields acrhN)
  have h2 := bulk_all r.fields acrhN
  have h3 := hr.fields
  omega
 have hd : (itoaT m.n).size ≤ 32 := itoaT_size hm.n0 hm.n1
 refine ⟨?_, ?_⟩
 ·show ([(acaoN, x.1), (acamN, x.2)] ++ (if 0 < (allV r.fields acrhN).length then [(acahN, joinR (allV r.fields acrhN))] else []) ++ [(acmaN, itoaT m.n)] ++ varyP m).length ≤ 8
  rw [List.length_append, List.length_append, List.length_append]
  have : (if 0 < (allV r.fields acrhN).length then [(acahN, joinR (allV r.fields acrhN))] else []).length ≤ 1 := by split <;> simp
  simp only [List.length_cons, List.length_nil]
  omega
 ·show Wide ([(acaoN, x.1), (acamN, x.2)] ++ (if 0 < (allV r.fields acrhN).length then [(acahN, joinR (allV r.fields acrhN))] else []) ++ [(acmaN, itoaT m.n)] ++ varyP m)
  refine wide_append (wide_append (wide_append (wide_cons acaoN_size (by unfold maxLen; show x.1.size ≤ _; omega) (wide_cons acamN_size (by unfold maxLen; show x.2.size ≤ _; omega) wide_nil)) ?_) (wide_cons acmaN_size (by unfold maxLen; show (itoaT m.n).size ≤ _; omega) wide_nil)) v1
  split
  ·exact wide_cons acahN_size (by unfold maxLen; show (joinR _).size ≤ _; omega) wide_nil
  ·exact wide_nil
end Go.Proofs.YtbnafbdhomdcoaaGreatDoor
namespace Go.Proofs.YtbnafbdhomdcoaaGreatDoor
open Go.RowKit Go.Shelf Go.Lib
def midC (m : Mid) (A : Option Addr) (c : Nat) : Array Value := #[.int .i64 m.kind, .string m.name, .string m.value, .slice A m.list.length c, .int .i64 m.n]
def rqC (r : Rq) (A : Option Addr) (c : Nat) (B : Option Addr) (d : Nat) : Array Value := #[.string r.method, .string r.target, .int .i64 r.major, .int .i64 r.minor, .slice A r.fields.length c, .string r.body, .slice B r.trailers.length d]
def rsC0 : Array Value := #[.int .i64 0, .string ⟨#[]⟩, .slice none 0 0, .string ⟨#[]⟩]
def X3 (w : World) (a b : Array Value) : World := ((w.alloc (.cells a 24)).alloc (.cells b 27)).alloc (.cells rsC0 29)
section
variable {D : Nat → Prop} {w w' : World} {a b : Array Value}
theorem X3_size (w : World) (a b : Array Value) : (X3 w a b).heap.size = w.heap.size + 3 := by simp [X3]
theorem X3_below (w : World) (a b : Array Value) : Below w.heap.size w (X3 w a b) := (((Below.refl _ w).alloc (Nat.le_refl _) _).alloc (by simp) _).alloc (by simp; omega) _
theorem X3_mid (hD : ∀ k, D k → k < w.heap.size) (h : Keep D (X3 w a b) w') (j : Nat) : w'.cell? ⟨w.heap.size, j, none⟩ = a[j]? := by
 rw [h.cell (p := ⟨w.heap.size, j, none⟩) (by rw [X3_size]; simp) (fun hd => by have := hD _ hd; simp at this)]
 unfold X3
 rw [World.cell?_alloc_lt _ _ _ (by simp; omega), World.cell?_alloc_lt _ _ _ (by simp), World.cell?_alloc_new]
theorem X3_req (hD : ∀ k, D k → k < w.heap.size) (h : Keep D (X3 w a b) w') (j : Nat) : w'.cell? ⟨w.heap.size + 1, j, none⟩ = b[j]? := by
 rw [h.cell (p := ⟨w.heap.size + 1, j, none⟩) (by rw [X3_size]; simp) (fun hd => by have := hD _ hd; simp at this; omega)]
 unfold X3
 rw [World.cell?_alloc_lt _ _ _ (by simp)]
 exact World.cell?_alloc_at _ _ _ _ (by simp)
theorem X3_res (hD : ∀ k, D k → k < w.heap.size) (h : Keep D (X3 w a b) w') (j : Nat) : w'.cell? ⟨w.heap.size + 1 + 1, j, none⟩ = rsC0[j]? ∧ w'.frozen? ⟨w.heap.size + 1 + 1, j, none⟩ = false := by
 have hn : ¬ D (w.heap.size + 1 + 1) := fun hd => by have := hD _ hd; omega
 refine ⟨?_, ?_⟩
 ·rw [h.cell (p := ⟨w.heap.size + 1 + 1, j, none⟩) (by rw [X3_size]; simp) hn]
  exact World.cell?_alloc_at _ _ _ _ (by simp)
 ·rw [h.frozen (p := ⟨w.heap.size + 1 + 1, j, none⟩) (by rw [X3_size]; simp) hn]
  exact World.frozen?_alloc_at _ _ _ _ (by simp)
theorem keep_size (h : Keep D (X3 w a b) w') : w.heap.size + 3 ≤ w'.heap.size := by have := h.size; rw [X3_size] at this; exact this
end
end Go.Proofs.YtbnafbdhomdcoaaGreatDoor
namespace Go.Proofs.YtbnafbdhomdcoaaGreatDoor
open Go.RowKit Go.Lib
theorem pre_same (s v : ByteArray) : Lib.hasPrefix s.data.toList v.data.toList = isPre v s := by
 rw [← Lib.hasPrefix_raw]
 unfold isPre
 congr 1
 rw [Bool.eq_iff_iff, beq_iff_eq, decide_eq_true_eq]
 constructor
 ·intro h
  have h2 : (s.extract 0 v.size).data.toList = v.data.toList := by
   rw [← Lib.toList_data, ← Lib.toList_data]; exact h
  exact bytes_ext h2
 ·intro h; rw [h]
theorem cut_pre (s v : ByteArray) (h : isPre v s = true) : (⟨(Lib.trimPrefix s.data.toList v.data.toList).toArray⟩ : ByteArray) = s.extract v.size s.size := by
 unfold Lib.trimPrefix
 rw [pre_same, if_pos h]
 apply bytes_ext
 rw [ext_all]
 rfl
end Go.Proofs.YtbnafbdhomdcoaaGreatDoor
namespace Go.Proofs.YtbnafbdhomdcoaaGreatDoor.T5
open Go.RowKit Go.Shelf Go.Lib
theorem gPow : Tryz.prog.globalNamed "internal/strconv.uint64pow10" = some 2 := by kernel_rfl
theorem tab_below {P : Program} {w w' : World} {name : String} {k : IntKind} {zs : List Int} {g B : Nat} (h : Lib.TabIs P w name k zs) (hg : P.globalNamed name = some g) (hb : Below B w w') (hB : g < B) : Lib.TabIs P w' name k zs := by
 unfold Lib.TabIs World.var? at *
 rw [hg] at h ⊢
 simp only [Option.bind_some] at h ⊢
 rw [hb.block g hB]
 exact h
structure Glob (w : World) : Prop where
 size : 3 ≤ w.heap.size
 maxl : ∃ m, w.cell? ⟨1, 0, none⟩ = some (.int .i64 m)
 pow : Lib.TabIs Tryz.prog w "internal/strconv.uint64pow10" .u64 Lib.pow10Tab
theorem Glob.below {B : Nat} {w w' : World} (h : Glob w) (hb : Below B w w') (hB : 3 ≤ B) : Glob w' :=
 ⟨Nat.le_trans h.size hb.size, by rw [hb.cell (p := ⟨1, 0, none⟩) (show 1 < B by omega)]; exact h.maxl, tab_below h.pow gPow hb (show 2 < B by omega)⟩
theorem Glob.beyond {w w' : World} (h : Glob w) (hb : Below w.heap.size w w') : Glob w' := h.below hb h.size
theorem Glob.alloc {w : World} (h : Glob w) (o : Obj) : Glob (w.alloc o) := h.beyond ((Below.refl w.heap.size w).alloc (Nat.le_refl _) o)
theorem below_drewN {B : Nat} {w w' : World} (h : Below B w w') (n : Nat) : Below B w (w'.drewN n) := ⟨h.os, h.tape, h.output, h.size, h.block⟩
theorem Glob.drewN {w : World} (h : Glob w) (n : Nat) : Glob (w.drewN n) := h.beyond (below_drewN (Below.refl _ _) n)
theorem ret_bool {a b : Bool} (h : a = b) : Ending.returned (.bool a) = .returned (.bool b) := by rw [h]
theorem ret_int {k : IntKind} {a b : Int} (h : a = b) : Ending.returned (.int k a) = .returned (.int k b) := by rw [h]
theorem ret_str {a b : ByteArray} (h : a = b) : Ending.returned (.string a) = .returned (.string b) := by rw [h]
theorem bytes_conv (w : World) (s : ByteArray) : (convert 9 80 (.string s)).run Tryz.prog w = .ok (.slice (some ⟨w.heap.size, 0, none⟩) s.size (grownCap w s.size 0 5)) (Lib.bytesWorld w 5 s) :=
 Lib.run_convert_string_bytes w _ _ _ s Tryz.underlying9 Tryz.underlying80 Tryz.underlying5
set_option maxRecDepth 20000 in
theorem Lower_any (s : ByteArray) (w : World) (hs : s.size ≤ maxLen) :
  Calls Tryz.prog 157 #[.string s] w fun e w' => e = .returned (.string (lower s)) ∧ Below w.heap.size w w' := by
 unfold maxLen at hs
 have hcv := bytes_conv w s
 have hbw := Lib.bytesWorld_size w 5 s
 have hba := BytesAt.of_conv w 5 s
 have hbl := below_conv w 5 s
 generalize Lib.bytesWorld w 5 s = w1 at hcv hbw hba hbl
 generalize grownCap w s.size 0 5 = cap at hcv
 have HW := Lib.hid hbw
 clear hbw
 go_enter Tryz.func157, Tryz.ntmps157
 go_wp2
 go_loopw [10] (fun i wr => ∃ k : Nat, k ≤ s.size ∧ i = .int .i64 k ∧ BytesAt wr w.heap.size (mapTo lowB s.data.toList k) ∧ Below w.heap.size w wr ∧ w.heap.size < wr.heap.size) (fun i _ => s.size - (RowKit.intOf i).toNat)
 case atStart => exact ⟨0, by omega, rfl, by rw [mapTo_zero]; exact hba, hbl, by have := HW.out; omega⟩
 case round =>
  obtain ⟨k, hk, rfl, hb, hbl', hlt'⟩ := hrel
  by_cases hlt : k < s.size
  ·have hkl : k < s.data.toList.length := by rw [size_eq]; exact hlt
   have hc := hb.cell k (by rw [mapTo_length]; exact hkl)
   have hf := hb.free k (by rw [mapTo_length]; exact hkl)
   rw [mapTo_getD lowB _ _ hkl] at hc
   change wr.cell? _ = some (.int .u8 (bt s k)) at hc
   by_cases hu : 65 ≤ bt s k ∧ bt s k ≤ 90
   ·obtain ⟨hu1, hu2⟩ := hu
    have h1 := bt_lt s k
    go_wp2
    go_roundw
    case rel => exact ⟨k + 1, by omega, by go_num, by rw [mapTo_succ lowB _ _ hkl]; exact hb.set (by rw [mapTo_length]; exact hkl) _ _ (by unfold bt; rw [lowB_in ⟨hu1, hu2⟩]; omega), hbl'.setCell (Nat.le_refl _) _, by simpa using hlt'⟩
    case measure => simp [RowKit.intOf]; omega
   ·have hsame := mapTo_same lowB _ _ hkl (lowB_out hu)
    have HS := Lib.hid hsame
    clear hsame
    have hu' : bt s k < 65 ∨ 90 < bt s k := by omega
    clear hu
    rcases hu' with hu | hu
    all_goals
     go_wp2
     go_roundw
     case rel => exact ⟨k + 1, by omega, by go_num, by rw [HS.out]; exact hb, hbl', hlt'⟩
     case measure => simp [RowKit.intOf]; omega
  ·obtain rfl : k = s.size := by omega
   have hcv := hb.conv Tryz.underlying80 Tryz.underlying5 Tryz.underlying9 cap
   rw [mapTo_length, size_eq, ← size_eq s, mapTo_all, size_eq] at hcv
   go_wp2
   go_ret
   exact ⟨rfl, hbl'⟩
theorem IndexByte_any (s : ByteArray) (c : Int) (w : World) (h0 : 0 ≤ c) (h1 : c < 256) :
  Calls Tryz.prog 101 #[.string s, .int .u8 c] w fun e w' => e = .returned (.int .i64 (findB s c)) ∧ w = w' :=
 (Tryz.strings_IndexByte s c w).mono fun _ _ ⟨he, hw⟩ => ⟨by rw [he, indexByte_eq s c h0 h1], hw.symm⟩
theorem Same_any (a b : ByteArray) (w : World) (ha : a.size ≤ maxLen) (hb : b.size ≤ maxLen) :
  Calls Tryz.prog 105 #[.string a, .string b] w fun e w' => e = .returned (.bool (alike a b)) ∧ Below w.heap.size w w' := by
 go_enter Tryz.func105, Tryz.ntmps105
 go_wp2_with fail
 refine (Lower_any a _ ha).mono ?_
 rintro e w1 ⟨rfl, hb1⟩
 go_wp2_with fail
 refine (Lower_any b _ hb).mono ?_
 rintro e w2 ⟨rfl, hb2⟩
 go_wp2
 go_ret
 exact ⟨ret_bool (by rw [alike, ← eq_str]), hb1.trans (hb2.mono hb1.size)⟩
end Go.Proofs.YtbnafbdhomdcoaaGreatDoor.T5
namespace Go.Proofs.YtbnafbdhomdcoaaGreatDoor
open Go.RowKit Go.Shelf Go.Lib
theorem GlobC.five {w : World} (h : GlobC w) : T5.Glob w := ⟨h.g.size, h.g.maxl, h.pow⟩
end Go.Proofs.YtbnafbdhomdcoaaGreatDoor
