/-
  Build, Roct, Canon, CanonW, ChP, ChD, ChQ, Fl, without what the claim does not reach.
-/
import Derived.Test.YtbnafbdhomdcoaaGreatDoorZShelf
import Derived.Shelf.Strings.BuilderK
import Derived.Test.YtbnafbdhomdcoaaGreatDoorZm3
import Derived.Test.YtbnafbdhomdcoaaGreatDoorZPlain
import Derived.Test.YtbnafbdhomdcoaaGreatDoorZm4
import Derived.Lib.ItoaNum
import Derived.Lib.ItoaLen
import Derived.Lib.LaidTab
import Derived.Lib.AppendIntMem
import Derived.Deep.RegionHeld3
import Derived.Deep.QuietTactic
import Derived.BigQuiet
import Derived.WalkSpells
namespace Go.Proofs
open Go.Shelf
def Tryz.hays166_ren : Go.Shelf.Ren := ⟨fun | 166 => 146 | 240 => 190 | 276 => 217 | n => n, fun | 5 => 5 | 0 => 0 | 3 => 3 | 4 => 4 | 9 => 9 | 20 => 20 | 37 => 80 | 70 => 143 | 72 => 145 | 75 => 149 | 164 => 197 | 80 => 156 | n => n, fun | n => n⟩
theorem Tryz.hays166 : Go.Proofs.Lays.n166 Tryz.prog Tryz.hays166_ren := {
 mixed := by kernel_rfl
 f166 := Tryz.func146.trans (congrArg some (by kernel_rfl))
 f240 := Tryz.func190.trans (congrArg some (by kernel_rfl))
 f276 := Tryz.func217.trans (congrArg some (by kernel_rfl))
 t0 := Tryz.underlying0
 a0 := Tryz.isAgg0
 z0 := Tryz.sizeOf0
 v0 := Tryz.zeroValue0
 t3 := Tryz.underlying3
 a3 := Tryz.isAgg3
 z3 := Tryz.sizeOf3
 v3 := Tryz.zeroValue3
 t4 := Tryz.underlying4
 a4 := Tryz.isAgg4
 z4 := Tryz.sizeOf4
 v4 := Tryz.zeroValue4
 t9 := Tryz.underlying9
 a9 := Tryz.isAgg9
 z9 := Tryz.sizeOf9
 v9 := Tryz.zeroValue9
 t20 := Tryz.underlying20
 a20 := Tryz.isAgg20
 z20 := Tryz.sizeOf20
 v20 := Tryz.zeroValue20
 t37 := Tryz.underlying80
 a37 := Tryz.isAgg80
 z37 := Tryz.sizeOf80
 v37 := Tryz.zeroValue80
 t70 := Tryz.underlying143
 a70 := Tryz.isAgg143
 z70 := Tryz.sizeOf143
 v70 := Tryz.zeroValue143
 t72 := Tryz.underlying145
 a72 := Tryz.isAgg145
 z72 := Tryz.sizeOf145
 v72 := Tryz.zeroValue145
 t75 := Tryz.underlying149
 a75 := Tryz.isAgg149
 z75 := Tryz.sizeOf149
 v75 := Tryz.zeroValue149
 t164 := Tryz.underlying197
 a164 := Tryz.isAgg197
 z164 := Tryz.sizeOf197
 v164 := Tryz.zeroValue197 }
def Tryz.hays167_ren : Go.Shelf.Ren := ⟨fun | 167 => 144 | 240 => 190 | 276 => 217 | n => n, fun | 0 => 0 | 4 => 4 | 5 => 5 | 9 => 9 | 20 => 20 | 37 => 80 | 70 => 143 | 72 => 145 | 75 => 149 | 164 => 197 | 80 => 156 | n => n, fun | n => n⟩
theorem Tryz.hays167 : Go.Proofs.Lays.n167 Tryz.prog Tryz.hays167_ren := {
 mixed := by kernel_rfl
 f167 := Tryz.func144.trans (congrArg some (by kernel_rfl))
 f240 := Tryz.func190.trans (congrArg some (by kernel_rfl))
 f276 := Tryz.func217.trans (congrArg some (by kernel_rfl))
 t0 := Tryz.underlying0
 a0 := Tryz.isAgg0
 z0 := Tryz.sizeOf0
 v0 := Tryz.zeroValue0
 t4 := Tryz.underlying4
 a4 := Tryz.isAgg4
 z4 := Tryz.sizeOf4
 v4 := Tryz.zeroValue4
 t5 := Tryz.underlying5
 a5 := Tryz.isAgg5
 z5 := Tryz.sizeOf5
 v5 := Tryz.zeroValue5
 t9 := Tryz.underlying9
 a9 := Tryz.isAgg9
 z9 := Tryz.sizeOf9
 v9 := Tryz.zeroValue9
 t20 := Tryz.underlying20
 a20 := Tryz.isAgg20
 z20 := Tryz.sizeOf20
 v20 := Tryz.zeroValue20
 t37 := Tryz.underlying80
 a37 := Tryz.isAgg80
 z37 := Tryz.sizeOf80
 v37 := Tryz.zeroValue80
 t70 := Tryz.underlying143
 a70 := Tryz.isAgg143
 z70 := Tryz.sizeOf143
 v70 := Tryz.zeroValue143
 t72 := Tryz.underlying145
 a72 := Tryz.isAgg145
 z72 := Tryz.sizeOf145
 v72 := Tryz.zeroValue145
 t75 := Tryz.underlying149
 a75 := Tryz.isAgg149
 z75 := Tryz.sizeOf149
 v75 := Tryz.zeroValue149
 t164 := Tryz.underlying197
 a164 := Tryz.isAgg197
 z164 := Tryz.sizeOf197
 v164 := Tryz.zeroValue197 }
theorem Tryz.hExtra166 : Builder.Extra Tryz.prog Tryz.hays166_ren where
 sizeBuilder := by kernel_rfl
 liesBuilder := by kernel_rfl
 t5 := Tryz.underlying5
 a5 := Tryz.isAgg5
 z5 := Tryz.sizeOf5
 v5 := Tryz.zeroValue5
 infoByte := by kernel_rfl
 cellsByte := by kernel_rfl
 sizeByte := by kernel_rfl
 neB5 := by decide
theorem Tryz.hExtra167 : Builder.Extra Tryz.prog Tryz.hays167_ren where
 sizeBuilder := by kernel_rfl
 liesBuilder := by kernel_rfl
 t5 := Tryz.underlying5
 a5 := Tryz.isAgg5
 z5 := Tryz.sizeOf5
 v5 := Tryz.zeroValue5
 infoByte := by kernel_rfl
 cellsByte := by kernel_rfl
 sizeByte := by kernel_rfl
 neB5 := by decide
namespace YtbnafbdhomdcoaaGreatDoor
open Go.RowKit
theorem WriteString_k (B b : Nat) (bs : List Value) (s : ByteArray) (w : World) (h : Lib.IsBuilderF 145 5 B b bs w) (hlen : bs.length + s.size ≤ 140737488355328) (hBw : B ≤ w.heap.size) :
  Calls Tryz.prog 146 #[.pointer (some ⟨b, 0, none⟩), .string s] w fun e w' => e = .returned (.tuple #[.int .i64 s.size, .nilIface]) ∧ (Lib.BuilderAtF 145 5 B b (.pointer (some ⟨b, 0, none⟩)) (bs ++ Lib.strCells s) w' ∧ Below B w w' ∧ Lib.OthersKept 5 (some b) w w') :=
 Any.Builder_WriteString_k Tryz.hays166 Tryz.hExtra166 B b bs s w h hlen hBw
theorem WriteByte_k (B b : Nat) (bs : List Value) (c : Int) (w : World) (h : Lib.IsBuilderF 145 5 B b bs w) (hlen : bs.length + 1 ≤ 140737488355328) (hBw : B ≤ w.heap.size) :
  Calls Tryz.prog 144 #[.pointer (some ⟨b, 0, none⟩), .int .u8 c] w fun e w' => e = .returned .nilIface ∧ (Lib.BuilderAtF 145 5 B b (.pointer (some ⟨b, 0, none⟩)) (bs ++ [.int .u8 c]) w' ∧ Below B w w' ∧ Lib.OthersKept 5 (some b) w w') :=
 Any.Builder_WriteByte_k Tryz.hays167 Tryz.hExtra167 B b bs c w h hlen hBw
end YtbnafbdhomdcoaaGreatDoor
end Go.Proofs
namespace Go.Proofs.YtbnafbdhomdcoaaGreatDoor
open Go.RowKit Go.Shelf Go.Lib
end Go.Proofs.YtbnafbdhomdcoaaGreatDoor
namespace Go.Proofs.YtbnafbdhomdcoaaGreatDoor
open Go.RowKit Go.Shelf Go.Lib
theorem IsValue_any (s : ByteArray) (w : World) (hs : s.size ≤ maxLen) :
  Calls Tryz.prog 55 #[.string s] w fun e w' => e = .returned (.bool (isValue s)) ∧ Below w.heap.size w w' := by
 rcases Nat.lt_or_ge 8192 s.size with h | h
 ·have HN := Lib.hid (show isValue s = false by rw [isValue, decide_eq_false (by omega)]; rfl)
  have hd : decide ((s.size : Int) ≤ 8192) = false := by simp; omega
  go_enter Tryz.func55, Tryz.ntmps55
  go_wp2
  go_ret
  exact ⟨ret_bool HN.out.symm, Below.refl _ _⟩
 ·have hd : decide ((s.size : Int) ≤ 8192) = true := by simp; omega
  have hF := IsField_any s w hs
  cases hf : isFld s
  ·have HN := Lib.hid (show isValue s = false by rw [isValue, hf]; simp)
   rw [hf] at hF
   clear hf
   go_enter Tryz.func55, Tryz.ntmps55
   go_wp2_with (go_at_call 91; refine hF.mono ?_; rintro e w' ⟨rfl, rfl⟩)
   go_ret
   exact ⟨ret_bool HN.out.symm, Below.refl _ _⟩
  ·have HN := Lib.hid (show isValue s = (trim s).toList.beq s.toList by rw [isValue, hf, decide_eq_true h]; simp only [Bool.true_and]; exact (eq_str _ _).symm)
   rw [hf] at hF
   clear hf
   go_enter Tryz.func55, Tryz.ntmps55
   go_wp2_with (first | (go_at_call 91; refine hF.mono ?_; rintro e w' ⟨rfl, rfl⟩) | (go_at_call 92; refine (Trim_any s _ hs).mono ?_; rintro e w1 ⟨rfl, hb⟩))
   go_ret
   exact ⟨ret_bool HN.out.symm, by assumption⟩
end Go.Proofs.YtbnafbdhomdcoaaGreatDoor
namespace Go.Proofs.YtbnafbdhomdcoaaGreatDoor
open Go.RowKit Go.Shelf Go.Lib
end Go.Proofs.YtbnafbdhomdcoaaGreatDoor
namespace Go.Proofs.YtbnafbdhomdcoaaGreatDoor
def tabR : List (Int × ByteArray × ByteArray) := [
 (100, ⟨#[49, 48, 48]⟩, ⟨#[67, 111, 110, 116, 105, 110, 117, 101]⟩),
 (101, ⟨#[49, 48, 49]⟩, ⟨#[83, 119, 105, 116, 99, 104, 105, 110, 103, 32, 80, 114, 111, 116, 111, 99, 111, 108, 115]⟩),
 (200, ⟨#[50, 48, 48]⟩, ⟨#[79, 75]⟩),
 (201, ⟨#[50, 48, 49]⟩, ⟨#[67, 114, 101, 97, 116, 101, 100]⟩),
 (202, ⟨#[50, 48, 50]⟩, ⟨#[65, 99, 99, 101, 112, 116, 101, 100]⟩),
 (204, ⟨#[50, 48, 52]⟩, ⟨#[78, 111, 32, 67, 111, 110, 116, 101, 110, 116]⟩),
 (206, ⟨#[50, 48, 54]⟩, ⟨#[80, 97, 114, 116, 105, 97, 108, 32, 67, 111, 110, 116, 101, 110, 116]⟩),
 (301, ⟨#[51, 48, 49]⟩, ⟨#[77, 111, 118, 101, 100, 32, 80, 101, 114, 109, 97, 110, 101, 110, 116, 108, 121]⟩),
 (302, ⟨#[51, 48, 50]⟩, ⟨#[70, 111, 117, 110, 100]⟩),
 (303, ⟨#[51, 48, 51]⟩, ⟨#[83, 101, 101, 32, 79, 116, 104, 101, 114]⟩),
 (304, ⟨#[51, 48, 52]⟩, ⟨#[78, 111, 116, 32, 77, 111, 100, 105, 102, 105, 101, 100]⟩),
 (307, ⟨#[51, 48, 55]⟩, ⟨#[84, 101, 109, 112, 111, 114, 97, 114, 121, 32, 82, 101, 100, 105, 114, 101, 99, 116]⟩),
 (308, ⟨#[51, 48, 56]⟩, ⟨#[80, 101, 114, 109, 97, 110, 101, 110, 116, 32, 82, 101, 100, 105, 114, 101, 99, 116]⟩),
 (400, ⟨#[52, 48, 48]⟩, ⟨#[66, 97, 100, 32, 82, 101, 113, 117, 101, 115, 116]⟩),
 (401, ⟨#[52, 48, 49]⟩, ⟨#[85, 110, 97, 117, 116, 104, 111, 114, 105, 122, 101, 100]⟩),
 (403, ⟨#[52, 48, 51]⟩, ⟨#[70, 111, 114, 98, 105, 100, 100, 101, 110]⟩),
 (404, ⟨#[52, 48, 52]⟩, ⟨#[78, 111, 116, 32, 70, 111, 117, 110, 100]⟩),
 (405, ⟨#[52, 48, 53]⟩, ⟨#[77, 101, 116, 104, 111, 100, 32, 78, 111, 116, 32, 65, 108, 108, 111, 119, 101, 100]⟩),
 (406, ⟨#[52, 48, 54]⟩, ⟨#[78, 111, 116, 32, 65, 99, 99, 101, 112, 116, 97, 98, 108, 101]⟩),
 (408, ⟨#[52, 48, 56]⟩, ⟨#[82, 101, 113, 117, 101, 115, 116, 32, 84, 105, 109, 101, 111, 117, 116]⟩),
 (411, ⟨#[52, 49, 49]⟩, ⟨#[76, 101, 110, 103, 116, 104, 32, 82, 101, 113, 117, 105, 114, 101, 100]⟩),
 (412, ⟨#[52, 49, 50]⟩, ⟨#[80, 114, 101, 99, 111, 110, 100, 105, 116, 105, 111, 110, 32, 70, 97, 105, 108, 101, 100]⟩),
 (413, ⟨#[52, 49, 51]⟩, ⟨#[67, 111, 110, 116, 101, 110, 116, 32, 84, 111, 111, 32, 76, 97, 114, 103, 101]⟩),
 (414, ⟨#[52, 49, 52]⟩, ⟨#[85, 82, 73, 32, 84, 111, 111, 32, 76, 111, 110, 103]⟩),
 (415, ⟨#[52, 49, 53]⟩, ⟨#[85, 110, 115, 117, 112, 112, 111, 114, 116, 101, 100, 32, 77, 101, 100, 105, 97, 32, 84, 121, 112, 101]⟩),
 (416, ⟨#[52, 49, 54]⟩, ⟨#[82, 97, 110, 103, 101, 32, 78, 111, 116, 32, 83, 97, 116, 105, 115, 102, 105, 97, 98, 108, 101]⟩),
 (417, ⟨#[52, 49, 55]⟩, ⟨#[69, 120, 112, 101, 99, 116, 97, 116, 105, 111, 110, 32, 70, 97, 105, 108, 101, 100]⟩),
 (421, ⟨#[52, 50, 49]⟩, ⟨#[77, 105, 115, 100, 105, 114, 101, 99, 116, 101, 100, 32, 82, 101, 113, 117, 101, 115, 116]⟩),
 (422, ⟨#[52, 50, 50]⟩, ⟨#[85, 110, 112, 114, 111, 99, 101, 115, 115, 97, 98, 108, 101, 32, 67, 111, 110, 116, 101, 110, 116]⟩),
 (426, ⟨#[52, 50, 54]⟩, ⟨#[85, 112, 103, 114, 97, 100, 101, 32, 82, 101, 113, 117, 105, 114, 101, 100]⟩),
 (428, ⟨#[52, 50, 56]⟩, ⟨#[80, 114, 101, 99, 111, 110, 100, 105, 116, 105, 111, 110, 32, 82, 101, 113, 117, 105, 114, 101, 100]⟩),
 (429, ⟨#[52, 50, 57]⟩, ⟨#[84, 111, 111, 32, 77, 97, 110, 121, 32, 82, 101, 113, 117, 101, 115, 116, 115]⟩),
 (431, ⟨#[52, 51, 49]⟩, ⟨#[82, 101, 113, 117, 101, 115, 116, 32, 72, 101, 97, 100, 101, 114, 32, 70, 105, 101, 108, 100, 115, 32, 84, 111, 111, 32, 76, 97, 114, 103, 101]⟩),
 (500, ⟨#[53, 48, 48]⟩, ⟨#[73, 110, 116, 101, 114, 110, 97, 108, 32, 83, 101, 114, 118, 101, 114, 32, 69, 114, 114, 111, 114]⟩),
 (501, ⟨#[53, 48, 49]⟩, ⟨#[78, 111, 116, 32, 73, 109, 112, 108, 101, 109, 101, 110, 116, 101, 100]⟩),
 (502, ⟨#[53, 48, 50]⟩, ⟨#[66, 97, 100, 32, 71, 97, 116, 101, 119, 97, 121]⟩),
 (503, ⟨#[53, 48, 51]⟩, ⟨#[83, 101, 114, 118, 105, 99, 101, 32, 85, 110, 97, 118, 97, 105, 108, 97, 98, 108, 101]⟩),
 (504, ⟨#[53, 48, 52]⟩, ⟨#[71, 97, 116, 101, 119, 97, 121, 32, 84, 105, 109, 101, 111, 117, 116]⟩),
 (505, ⟨#[53, 48, 53]⟩, ⟨#[72, 84, 84, 80, 32, 86, 101, 114, 115, 105, 111, 110, 32, 78, 111, 116, 32, 83, 117, 112, 112, 111, 114, 116, 101, 100]⟩)]
def reasonP (n : Int) : ByteArray := match tabR.find? fun x => x.1 == n with
 | some x => x.2.2
 | none => ⟨#[]⟩
theorem tab_keys : ∀ x ∈ tabR, ∀ y ∈ tabR, x.1 = y.1 → x = y := by decide +kernel
theorem reasonP_in {x : Int × ByteArray × ByteArray} (hx : x ∈ tabR) : reasonP x.1 = x.2.2 := by
 unfold reasonP
 cases h : tabR.find? fun y => y.1 == x.1 with
 | none => exact absurd (by simp) (List.find?_eq_none.1 h x hx)
 | some y =>
  have h1 := List.find?_some h
  have h2 : y.1 = x.1 := by simpa using h1
  rw [tab_keys y (List.mem_of_find?_eq_some h) x hx h2]
theorem reasonP_out {n : Int} (h : ∀ x ∈ tabR, x.1 ≠ n) : reasonP n = ⟨#[]⟩ := by
 unfold reasonP
 cases hf : tabR.find? fun y => y.1 == n with
 | none => rfl
 | some y =>
  have h1 := List.find?_some hf
  exact absurd (by simpa using h1) (h y (List.mem_of_find?_eq_some hf))
end Go.Proofs.YtbnafbdhomdcoaaGreatDoor
namespace Go.Proofs.YtbnafbdhomdcoaaGreatDoor
open Go.RowKit Go.Shelf Go.Lib
theorem gPow : Tryz.prog.globalNamed "internal/strconv.uint64pow10" = some 2 := by kernel_rfl
theorem tab_below {P : Program} {w w' : World} {name : String} {k : IntKind} {zs : List Int} {g B : Nat} (h : Lib.TabIs P w name k zs) (hg : P.globalNamed name = some g) (hb : Below B w w') (hB : g < B) : Lib.TabIs P w' name k zs := by
 unfold Lib.TabIs World.var? at *
 rw [hg] at h ⊢
 simp only [Option.bind_some] at h ⊢
 rw [hb.block g hB]
 exact h
structure GlobC (w : World) : Prop where
 g : Glob w
 pow : Lib.TabIs Tryz.prog w "internal/strconv.uint64pow10" .u64 Lib.pow10Tab
theorem GlobC.beyond {w w' : World} (h : GlobC w) (hb : Below w.heap.size w w') : GlobC w' := ⟨h.g.beyond hb, tab_below h.pow gPow hb (Nat.lt_of_lt_of_le (by decide) h.g.size)⟩
def byteV (b : UInt8) : Value := .int .u8 (b.toNat : Int)
theorem bytes_oneCell (l : List UInt8) : ∀ u ∈ l.map byteV, u.oneCell' = true := by
 intro u hu
 obtain ⟨b, _, rfl⟩ := List.mem_map.1 hu
 rfl
theorem info_byte : (Tryz.prog.info? 5).map (fun i => (i.zero, i.size, i.bytes)) = some (some (.int .u8 0), 1, 1) := by kernel_rfl
def OwnB (w : World) (base : Nat) (v : Value) (l : List UInt8) : Prop := w.ownsRow base 5 1 v l.length (l.map byteV)
theorem OwnB.conv {w : World} {base : Nat} {v : Value} {l : List UInt8} (h : OwnB w base v l) : (convert 80 9 v).run Tryz.prog w = .ok (.string ⟨l.toArray⟩) w := by
 obtain ⟨A, c, rfl⟩ := own_slice h
 rcases h.2 with ⟨h1, h2⟩ | ⟨g, cap, cur, h1, _⟩
 ·simp only [Value.slice.injEq] at h1
  obtain ⟨h1, h3, h4⟩ := h1
  have hl : l = [] := List.eq_nil_of_length_eq_zero h3
  subst hl
  rw [h1]
  have := run_convert_bytes_nil (P := Tryz.prog) w 80 5 Tryz.underlying80 Tryz.underlying5 0 c 9 Tryz.underlying9
  exact this
 ·simp only [Value.slice.injEq] at h1
  obtain ⟨h1, h3, h4⟩ := h1
  subst h1
  have hc := h.cells (g := g) rfl
  have hB : BytesAt w g l := ⟨fun i hi => by
   have h6 := hc i (byteV l[i]) (by rw [List.getElem?_map, List.getElem?_eq_getElem hi]; rfl)
   have e : (⟨g, 0, none⟩ : Addr).add i = ⟨g, i, none⟩ := by
    unfold Addr.add
    split
    ·rename_i h0; rw [h0]
    ·simp
   rw [e] at h6
   rw [h6, List.getD_eq_getElem?_getD, List.getElem?_eq_getElem hi]
   rfl, fun i _ => h.frozenAt i⟩
  exact hB.conv Tryz.underlying80 Tryz.underlying5 Tryz.underlying9 c
def itoaT (n : Int) : ByteArray := ⟨(Lib.itoa n).toArray⟩
theorem Digits_any (n : Int) (w : World) (h0 : -9223372036854775808 ≤ n) (h1 : n ≤ 9223372036854775807) (hg : GlobC w) :
  Calls Tryz.prog 39 #[.int .i64 n] w fun e w' => e = .returned (.string (itoaT n)) ∧ Below w.heap.size w w' := by
 have HI : Calls Tryz.prog 79 #[.int .i64 n] w fun e w' => e = .returned (.string (itoaT n)) ∧ Below w.heap.size w w' := (Tryz.strconv_Itoa n h0 h1 w hg.pow).mono fun e w' ⟨he, k, os, hw⟩ => ⟨he, by rw [hw]; exact Lib.below_grow _ _ (Nat.le_refl _) k os⟩
 have HI := Lib.hid HI
 go_enter Tryz.func39, Tryz.ntmps39
 go_wp2_with fail
 refine HI.out.mono ?_
 rintro e w' ⟨rfl, hb⟩
 go_wp2
 go_ret
 exact ⟨rfl, hb⟩
theorem cat_data (b : UInt8) (l : List UInt8) : ((⟨#[b]⟩ : ByteArray) ++ (⟨l.toArray⟩ : ByteArray)).data.toList = b :: l := by
 rw [ByteArray.data_append]
 simp
end Go.Proofs.YtbnafbdhomdcoaaGreatDoor
namespace Go.Proofs.YtbnafbdhomdcoaaGreatDoor
open Go.RowKit Go.Shelf Go.Lib
theorem below_drew {B : Nat} {w w' : World} (h : Below B w w') : Below B w w'.drew := ⟨h.os, h.tape, h.output, h.size, h.block⟩
end Go.Proofs.YtbnafbdhomdcoaaGreatDoor
namespace Go.Proofs.YtbnafbdhomdcoaaGreatDoor
open Go.RowKit Go.Shelf Go.Lib
theorem info_field : (Tryz.prog.info? 59).map (fun i => (i.zero, i.size, i.bytes)) = some (some (.agg #[.string ⟨#[]⟩, .string ⟨#[]⟩]), 2, 32) := by kernel_rfl
theorem info_rfield : (Tryz.prog.info? 69).map (fun i => (i.zero, i.size, i.bytes)) = some (some (.agg #[.string ⟨#[]⟩, .string ⟨#[]⟩]), 2, 32) := by kernel_rfl
theorem own_none (w : World) : (w.alloc (.cells #[] 59)).ownsRow w.heap.size 59 2 (.slice (some ⟨w.heap.size, 0, none⟩) 0 0) 0 [] := World.ownsRow_lit w #[] 0 (Nat.le_refl _) (by unfold maxLen; omega) rfl
theorem cells_new2 (w : World) (x y : ByteArray) (t : TypeId) {n : Nat} (hn : n = w.heap.size) : ∀ j u, [Value.string x, Value.string y][j]? = some u → (w.alloc (.cells #[.string x, .string y] t)).cell? ((⟨n, 0, none⟩ : Addr).add j) = some u := by
 subst hn
 intro j u hu
 match j with
 | 0 => simp at hu; subst hu; simp [Addr.add]
 | 1 => simp at hu; subst hu; simp [Addr.add]
 | j + 2 => simp at hu
def GivesFl (T : TypeId) (w : World) (fs : List Fl) (e : Ending) (w' : World) : Prop :=
 ∃ A c, e = .returned (.slice A fs.length c) ∧ w'.ownsRow w.heap.size T 2 (.slice A fs.length c) fs.length (flat fs) ∧ Below w.heap.size w w'
end Go.Proofs.YtbnafbdhomdcoaaGreatDoor
