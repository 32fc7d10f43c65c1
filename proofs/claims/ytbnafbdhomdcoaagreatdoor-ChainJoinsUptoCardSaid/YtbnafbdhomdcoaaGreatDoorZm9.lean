/-
  ChS, ChFrame, without what the claim does not reach.
-/
import Derived.Test.YtbnafbdhomdcoaaGreatDoorZm8
import Derived.Laws.EntriesVeiled
import Derived.Test.YtbnafbdhomdcoaaGreatDoorZm5
import Derived.Test.YtbnafbdhomdcoaaGreatDoorZm3
import Derived.Test.YtbnafbdhomdcoaaGreatDoorCards
import Derived.Test.YtbnafbdhomdcoaaGreatDoorTie
import Derived.ProofKit
import Derived.OpenShut
import Derived.Deep.DeepHandedRow
import Derived.Lib.LaidTab
import Derived.Stop.LaidErr
import Derived.ChangeSame
import Derived.Deep.Slices
import Derived.Deep.Fields
import Derived.WideKeyArgs
namespace Go.Proofs.YtbnafbdhomdcoaaGreatDoor
open Go.RowKit Go.Shelf Go.Lib
set_option maxRecDepth 20000 in
theorem IsValue_one (w : World) :
  Calls Tryz.prog 55 #[.string ⟨#[49]⟩] w fun e w' => e = .returned (.bool true) ∧ Below w.heap.size w w' := by
 have HF := Lib.hid (fun w => IsField_any ⟨#[49]⟩ w (by decide))
 have HT := Lib.hid (fun w => Trim_any ⟨#[49]⟩ w (by decide))
 rw [show isFld ⟨#[49]⟩ = true by decide +kernel] at HF
 rw [show trim ⟨#[49]⟩ = ⟨#[49]⟩ by decide +kernel] at HT
 go_enter Tryz.func55, Tryz.ntmps55
 go_wp2_with fail
 refine (HF.out _).mono ?_
 rintro e w1 ⟨rfl, rfl⟩
 go_wp2_with fail
 refine (HT.out _).mono ?_
 rintro e w1 ⟨rfl, b1⟩
 go_wp2
 go_ret
 exact ⟨rfl, b1⟩
set_option maxRecDepth 20000 in
theorem right_one (w : World) (hg : Glob w) :
  Calls Tryz.prog 53 #[.agg #[.int .i64 1, .string ⟨#[88]⟩, .string ⟨#[49]⟩, .slice none 0 0, .int .i64 0]] w fun e w' => e = .returned (.bool true) ∧ Below w.heap.size w w' := by
 have HT := Lib.hid (fun w hg => IsToken_any ⟨#[88]⟩ w (by decide) hg)
 rw [show isTok ⟨#[88]⟩ = true by decide +kernel] at HT
 go_enter Tryz.func53, Tryz.ntmps53
 go_wp2_with fail
 refine (HT.out _ (hg.beyond ((Below.refl _ w).alloc (Nat.le_refl _) _))).mono ?_
 rintro e w1 ⟨rfl, rfl⟩
 go_wp2_with fail
 refine (IsValue_one _).mono ?_
 rintro e w1 ⟨rfl, b1⟩
 have hbw : Below w.heap.size w w1 := ((Below.refl _ w).alloc (Nat.le_refl _) _).trans (b1.mono (by simp))
 clear b1
 go_wp2
 go_ret
 exact ⟨rfl, hbw⟩
set_option maxRecDepth 20000 in
theorem works_any (w : World) :
  Calls Tryz.prog 35 #[] w fun e w' => e = .returned (.slice (some ⟨w.heap.size, 0, none⟩) 10 10) ∧ (w'.cell? ⟨w.heap.size, 0, none⟩ = some (.int .i64 3) ∧ w'.cell? ⟨w.heap.size, 1, none⟩ = some (.func (.func 53) #[] #[]) ∧ w'.cell? ⟨w.heap.size, 2, none⟩ = some (.func (.func 56) #[] #[])) ∧ w.heap.size < w'.heap.size ∧ Below w.heap.size w w' := by
 go_enter Tryz.func35, Tryz.ntmps35
 go_wp2
 go_ret
 exact ⟨rfl, ⟨by simp, by simp, by simp⟩, by simp, (Below.refl _ w).alloc (Nat.le_refl _) _⟩
theorem uses_one (B : Nat) (w : World) (z : Bool) (hc : w.cell? ⟨B, 0, none⟩ = some (.int .i64 3)) :
  Calls Tryz.prog 52 #[.int .i64 1, .bool z, .pointer (some ⟨B, 0, none⟩)] w fun e w' => e = .returned (.bool true) ∧ w = w' := by
 go_enter Tryz.func52, Tryz.ntmps52
 go_wp2
 go_ret
 exact ⟨rfl, rfl⟩
theorem uses_two (B : Nat) (w : World) (z : Bool) (hc : w.cell? ⟨B, 0, none⟩ = some (.int .i64 3)) :
  Calls Tryz.prog 52 #[.int .i64 2, .bool z, .pointer (some ⟨B, 0, none⟩)] w fun e w' => e = .returned (.bool true) ∧ w = w' := by
 go_enter Tryz.func52, Tryz.ntmps52
 go_wp2
 go_ret
 exact ⟨rfl, rfl⟩
theorem uses_four (B : Nat) (w : World) (hc : w.cell? ⟨B, 0, none⟩ = some (.int .i64 3)) :
  Calls Tryz.prog 52 #[.int .i64 4, .bool true, .pointer (some ⟨B, 0, none⟩)] w fun e w' => e = .returned (.bool true) ∧ w = w' := by
 go_enter Tryz.func52, Tryz.ntmps52
 go_wp2
 go_ret
 exact ⟨rfl, rfl⟩
theorem uses_eight (B : Nat) (w : World) (hc : w.cell? ⟨B, 0, none⟩ = some (.int .i64 3)) :
  Calls Tryz.prog 52 #[.int .i64 8, .bool true, .pointer (some ⟨B, 0, none⟩)] w fun e w' => e = .returned (.bool true) ∧ w = w' := by
 go_enter Tryz.func52, Tryz.ntmps52
 go_wp2
 go_ret
 exact ⟨rfl, rfl⟩
set_option maxRecDepth 20000 in
set_option maxHeartbeats 2000000 in
theorem Check_one (w : World) (hg : Glob w) :
  Calls Tryz.prog 34 #[.agg #[.int .i64 1, .string ⟨#[88]⟩, .string ⟨#[49]⟩, .slice none 0 0, .int .i64 0]] w fun e w' => e = .returned (.int .i64 0) ∧ Below w.heap.size w w' := by
 have hmf : ∀ (fn : Fn) (first cap : Array Value) (w : World), (Instr.makeFunc fn first cap).run Tryz.prog w = .ok (.func fn first cap) w := fun _ _ _ _ => rfl
 go_enter Tryz.func34, Tryz.ntmps34
 go_wp2_with fail
 refine (works_any _).mono ?_
 rintro e w1 ⟨rfl, ⟨k0, k1, k2⟩, hs1, b1⟩
 have b1' : Below (w.heap.size + 1) (w.alloc (.cells #[.int .i64 1, .string ⟨#[88]⟩, .string ⟨#[49]⟩, .slice none 0 0, .int .i64 0] 24)) w1 := by simpa using b1
 clear b1
 obtain ⟨c0, f0⟩ := box6 b1' 0
 obtain ⟨c1, f1⟩ := box6 b1' 1
 obtain ⟨c2, f2⟩ := box6 b1' 2
 obtain ⟨c3, f3⟩ := box6 b1' 3
 obtain ⟨c4, f4⟩ := box6 b1' 4
 have hs1' : w.heap.size + 1 < w1.heap.size := by simpa using hs1
 have hs0' : w.heap.size < w1.heap.size := by omega
 have hbw := below_box b1'
 clear b1' hs1
 simp at k0 k1 k2
 go_wp2_with fail
 refine (uses_one _ _ _ (by simp)).mono ?_
 rintro e w2 ⟨rfl, rfl⟩
 go_wp2_with fail
 refine (uses_two _ _ _ (by simp)).mono ?_
 rintro e w2 ⟨rfl, rfl⟩
 go_wp2_with fail
 refine (uses_four _ _ (by simp)).mono ?_
 rintro e w2 ⟨rfl, rfl⟩
 go_wp2_with fail
 refine (uses_eight _ _ (by simp)).mono ?_
 rintro e w2 ⟨rfl, rfl⟩
 have hbw2 := hbw.alloc hbw.size (.cells #[.int .i64 3, .func (.func 53) #[] #[], .func (.func 56) #[] #[]] 76)
 go_wp2_with fail
 refine (right_one _ (hg.beyond hbw2)).mono ?_
 rintro e w2 ⟨rfl, b2⟩
 have hbw3 : Below w.heap.size w w2 := hbw2.trans (b2.mono (by simp; omega))
 clear b2
 go_wp2
 go_ret
 exact ⟨rfl, hbw3⟩
def GivesRs (w : World) (st : Int) (rs : ByteArray) (fs : List Fl) (b : ByteArray) (e : Ending) (w' : World) : Prop :=
 ∃ A c, e = .returned (.agg #[.int .i64 st, .string rs, .slice A fs.length c, .string b]) ∧ w'.ownsRow w.heap.size 59 2 (.slice A fs.length c) fs.length (flat fs) ∧ Below w.heap.size w w'
set_option maxRecDepth 20000 in
set_option maxHeartbeats 2000000 in
theorem laid_any (st : Int) (rs b : ByteArray) (A B : Option Addr) (c d : Nat) (l m : List Fl) (w : World) (hr : Row w A (flat l)) (hs : Row w B (flat m)) (hl : l.length ≤ 2199023255552) (hm : m.length ≤ 2199023255552) :
  Calls Tryz.prog 93 #[.agg #[.int .i64 st, .string rs, .slice A l.length c, .string b], .slice B m.length d] w (GivesRs w st rs (l ++ m) b) := by
 obtain ⟨i0, hi0, hz0, hz1, hz2⟩ := info_parts info_field
 have hW : Below w.heap.size w ((w.alloc (.cells #[.int .i64 st, .string rs, .slice A l.length c, .string b] 29)).alloc (.cells #[.int .i64 0, .string ⟨#[]⟩, .slice none 0 0, .string ⟨#[]⟩] 29)) := ((Below.refl _ w).alloc (Nat.le_refl _) _).alloc (by simp) _
 have HC := Lib.hid (Clone_any A c l ((w.alloc (.cells #[.int .i64 st, .string rs, .slice A l.length c, .string b] 29)).alloc (.cells #[.int .i64 0, .string ⟨#[]⟩, .slice none 0 0, .string ⟨#[]⟩] 29)) ((hr.alloc _).alloc _) (by omega))
 go_enter Tryz.func93, Tryz.ntmps93
 go_wp2_with fail
 refine HC.out.mono ?_
 rintro e w1 ⟨A1, c1, rfl, hown, hb1⟩
 have hb1' : Below (w.heap.size + 2) ((w.alloc (.cells #[.int .i64 st, .string rs, .slice A l.length c, .string b] 29)).alloc (.cells #[.int .i64 0, .string ⟨#[]⟩, .slice none 0 0, .string ⟨#[]⟩] 29)) w1 := by simpa using hb1
 have hown1 : w1.ownsRow (w.heap.size + 2) 59 2 (.slice A1 l.length c1) l.length (flat l) := by simpa using hown
 have hs1 := hs.below (hW.trans (hb1.mono (by simp; omega)))
 clear hb1 hown
 have hsz : w.heap.size + 2 ≤ w1.heap.size := by have := hb1'.size; simpa using this
 go_wp2_with (at_builtin; refine wpList_append_any _ rfl _ _ 25 rfl (w.heap.size + 2) 59 i0 (.agg #[.string ⟨#[]⟩, .string ⟨#[]⟩]) 2 32 Tryz.underlying25 hi0 hz0 hz1 hz2 rfl (by decide) _ l.length (flat l) rfl hown1 _ B m.length d (flat m) rfl (reads_of_row hs1 (flat_length m) (by decide)) ?c1 ?c2 ?c3 ?c4 ?c5)
 case c1 => exact flat_oneCell m
 case c2 => unfold maxLen; omega
 case c3 => omega
 case c4 => omega
 case c5 =>
  intro v' w3 hown3 hg _
  have hb3 : Below (w.heap.size + 2) ((w.alloc (.cells #[.int .i64 st, .string rs, .slice A l.length c, .string b] 29)).alloc (.cells #[.int .i64 0, .string ⟨#[]⟩, .slice none 0 0, .string ⟨#[]⟩] 29)) w3 := hb1'.grown hg hsz (own_lt hown1)
  have hov : w3.ownsRow (w.heap.size + 2) 59 2 v' (l ++ m).length (flat (l ++ m)) := by rw [flat_append, List.length_append]; exact hown3
  clear hg hown3 hown1 hb1' hs1
  obtain ⟨A', c', rfl⟩ := own_slice hov
  have hll : (l ++ m).length = l.length + m.length := List.length_append
  have K0 : ∀ j, w3.cell? ⟨w.heap.size, j, none⟩ = (#[.int .i64 st, .string rs, .slice A l.length c, .string b] : Array Value)[j]? ∧ w3.frozen? ⟨w.heap.size, j, none⟩ = false := fun j => by
   refine ⟨?_, ?_⟩
   ·rw [hb3.cell (p := ⟨w.heap.size, j, none⟩) (by simp), World.cell?_alloc_lt _ _ _ (by simp), World.cell?_alloc_new]
   ·rw [hb3.frozen (p := ⟨w.heap.size, j, none⟩) (by simp)]; simp
  have K1 : ∀ j, w3.cell? ⟨w.heap.size + 1, j, none⟩ = (#[.int .i64 0, .string ⟨#[]⟩, .slice none 0 0, .string ⟨#[]⟩] : Array Value)[j]? ∧ w3.frozen? ⟨w.heap.size + 1, j, none⟩ = false := fun j => by
   refine ⟨?_, ?_⟩
   ·rw [hb3.cell (p := ⟨w.heap.size + 1, j, none⟩) (by simp)]; exact World.cell?_alloc_at _ _ _ _ (by simp)
   ·rw [hb3.frozen (p := ⟨w.heap.size + 1, j, none⟩) (by simp)]; exact World.frozen?_alloc_at _ _ _ _ (by simp)
  obtain ⟨k0, g0⟩ := K0 0
  obtain ⟨k1, g1⟩ := K0 1
  obtain ⟨k2, g2⟩ := K0 2
  obtain ⟨k3, g3⟩ := K0 3
  obtain ⟨j0, f0⟩ := K1 0
  obtain ⟨j1, f1⟩ := K1 1
  obtain ⟨j2, f2⟩ := K1 2
  obtain ⟨j3, f3⟩ := K1 3
  have hz0 : w.heap.size < w3.heap.size := by have := hb3.size; simp at this; omega
  have hz1 : w.heap.size + 1 < w3.heap.size := by have := hb3.size; simp at this; omega
  have HBW := Lib.hid (show Below w.heap.size w w3 from hW.trans (hb3.mono (by omega)))
  have HOV := Lib.hid hov
  have HLL := Lib.hid hll
  clear hb3 hov hW K0 K1 hll
  go_wp2
  exact bodyPost_ret (v := .agg #[.int .i64 st, .string rs, .slice A' (l.length + m.length) c', .string b]) (by simp [results, Tryz.results93, go_sem, j0, j1, j2, j3]) rfl ⟨A', c', by rw [HLL.out], own_less (ownsRow_setCell_below (ownsRow_setCell_below (ownsRow_setCell_below (ownsRow_setCell_below (ownsRow_setCell_below HOV.out (by simp) _) (by simp) _) (by simp) _) (by simp) _) (by simp) _) (by omega), by (repeat (first | (with_reducible refine Below.setCell ?_ (by simp) _))); exact HBW.out⟩
end Go.Proofs.YtbnafbdhomdcoaaGreatDoor
namespace Go.Proofs.YtbnafbdhomdcoaaGreatDoor
open Go.ChangeShapes Go.WideShapes Go.ChangeAt Go.RowKit Go.Deep
open Go.ChangeMaps (open_string shut_string)
theorem ownKnobNone : ownKnob Tryz.prog.godebug = none := by kernel_rfl
theorem gSigns : Tryz.prog.globalNamed "turnpike/octet.signs" = some 0 := by kernel_rfl
theorem gSignsType : (Tryz.prog.globals[0]?).map (·.type) = some 137 := by kernel_rfl
theorem cellsSigns : Tryz.prog.cellsOf 137 = 4 := by kernel_rfl
theorem cellsU32 : Tryz.prog.cellsOf 136 = 1 := by kernel_rfl
theorem gPowType : (Tryz.prog.globals[2]?).map (·.type) = some 203 := by kernel_rfl
theorem cellsPow : Tryz.prog.cellsOf 203 = 20 := by kernel_rfl
theorem cellsU64 : Tryz.prog.cellsOf 191 = 1 := by kernel_rfl
def theLaid : List (String × DataW Unit) := [("math/bits.deBruijn32tab", Rows.laid_math_bits_deBruijn32tab), ("math/bits.deBruijn64tab", Rows.laid_math_bits_deBruijn64tab), ("internal/strconv.uint64pow10", Rows.laid_internal_strconv_uint64pow10), ("unicode/utf8.acceptRanges", Rows.laid_unicode_utf8_acceptRanges), ("turnpike/octet.signs", Rows.laid_turnpike_octet_signs), ("unicode/utf8.first", Rows.laid_unicode_utf8_first)]
theorem no_handles : theLaid.filter (fun x => x.2.handleName?.isSome) = [] := by kernel_rfl
theorem laid_met_of {W : World} (h : laidMetH Tryz.prog theLaid W) : laidMet Tryz.prog theLaid W := by
 unfold laidMetH at h
 rw [no_handles] at h
 exact h
def powL : List Int := [1, 10, 100, 1000, 10000, 100000, 1000000, 10000000, 100000000, 1000000000, 10000000000, 100000000000, 1000000000000, 10000000000000, 100000000000000, 1000000000000000, 10000000000000000, 100000000000000000, 1000000000000000000, 10000000000000000000]
theorem powL_eq : powL = Lib.pow10Tab := by decide +kernel
theorem glob_of {W : World} (h : laidMetH Tryz.prog theLaid W) (hs : W.ShapedOpen Tryz.prog) : GlobC W := by
 have h1 := (laid_met_of h).tail.tail
 have h2 := h1.tail.tail
 have hp : Lib.TabIs Tryz.prog W "internal/strconv.uint64pow10" .u64 powL := Lib.tabIs_of_head (zs := powL) (rest := [("unicode/utf8.acceptRanges", Rows.laid_unicode_utf8_acceptRanges), ("turnpike/octet.signs", Rows.laid_turnpike_octet_signs), ("unicode/utf8.first", Rows.laid_unicode_utf8_first)]) gPow gPowType Tryz.underlying203 Tryz.underlying191 cellsU64 cellsPow h1
 have ht : Lib.TabIs Tryz.prog W "turnpike/octet.signs" .u32 signTab := Lib.tabIs_of_head (zs := signTab) (rest := [("unicode/utf8.first", Rows.laid_unicode_utf8_first)]) gSigns gSignsType Tryz.underlying137 Tryz.underlying136 cellsU32 cellsSigns h2
 have hm := cell_of_shapedOpen_int (g := 1) (zero := #[.int .i64 0]) (t := 3) hs (of_decide_eq_true (by kernel_rfl)) (by kernel_rfl) rfl (by kernel_rfl) (by kernel_rfl) Tryz.underlying3
 have hc : ∀ k : Nat, k < 4 → W.cell? ⟨0, k, none⟩ = some (.int .u32 (signTab.getD k 0)) := fun k hk => ht.cell gSigns k hk
 have lt_of : ∀ (b k : Nat) (v : Value), W.cell? ⟨b, k, none⟩ = some v → b < W.heap.size := fun b k v h => by
  rcases Nat.lt_or_ge b W.heap.size with h1 | h1
  ·exact h1
  ·simp [World.cell?, Array.getElem?_eq_none h1] at h
 refine ⟨⟨?_, hc, hm⟩, powL_eq ▸ hp⟩
 have h0 := lt_of _ _ _ (hc 0 (by omega))
 obtain ⟨m, hm⟩ := hm
 have h1 := lt_of _ _ _ hm
 have h3 := lt_of _ _ _ (hp.cell gPow 0 (by decide))
 omega
def putCells (cs : Array Value) : Obj → Obj
 | .cells _ t frozen => .cells cs t frozen
 | o => o
def bytesOf (l : List Nat) : Array Value := (l.map fun (n : Nat) => Value.int .u8 (n : Int)).toArray
noncomputable def laidWorld (os : Os) : World :=
 { World.holding Tryz.prog os ⟨#[], #[], []⟩ with heap := ((((((World.holding Tryz.prog os ⟨#[], #[], []⟩).heap.modify 0 (putCells #[.int .u32 0, .int .u32 67071226, .int .u32 3355443198, .int .u32 1476395007])).modify 2 (putCells (powL.map fun z => Value.int .u64 z).toArray)).modify 3 (putCells (bytesOf Go.Pinned.utf8FirstZ))).modify 4 (putCells (bytesOf ([128, 191, 160, 191, 128, 159, 144, 191, 128, 143] ++ List.replicate 22 0)))).modify 5 (putCells (bytesOf [0, 1, 28, 2, 29, 14, 24, 3, 30, 22, 20, 15, 25, 17, 4, 8, 31, 27, 13, 23, 21, 19, 16, 7, 26, 12, 18, 6, 11, 5, 10, 9]))).modify 6 (putCells (bytesOf [0, 1, 56, 2, 57, 49, 28, 3, 61, 58, 42, 50, 38, 29, 17, 4, 62, 47, 59, 36, 45, 43, 51, 22, 53, 39, 33, 30, 24, 18, 12, 5, 63, 55, 48, 27, 60, 41, 37, 16, 46, 35, 44, 21, 52, 32, 23, 11, 54, 26, 40, 15, 34, 20, 31, 10, 25, 14, 19, 9, 13, 8, 7, 6])) }
theorem laid_met (os : Os) (args : Array Value) : laidMet Tryz.prog theLaid ((laidWorld os).forCall (fun _ _ => 0) ⟨#[], args, []⟩).memory :=
 laidMet_of_run' 8 (by kernel_rfl) (by kernel_rfl)
section
variable {H : Type} {enc : TypeId × Value → H} {P : Program}
theorem post_of_below {f : Func} {s : ChangeSpec} {apart fresh handsOn again : Bool} {W W' : World} {args : Array Value} {v : Value} {ds gs : List (DataW H)} {before pa pv : List MemPlace}
  (hW : DataW.Whole enc P f.params.toList s.vars apart W args.toList ds gs before)
  (hres : ∀ (b : Nat) (sp : Nat → Bool) (hd : Bool), DataW.TrodAll enc P W' b sp hd f.resultTypes.toList (v.resultList f.resultTypes.size) (s.fn H (ds ++ gs)).results [])
  (hargs : ∀ sp : Nat → Bool, (∀ p ∈ before, sp p.block = true) → DataW.TrodAll enc P W' 0 sp true f.params.toList args.toList (s.fn H (ds ++ gs)).args pa)
  (hvars : ∀ sp : Nat → Bool, (∀ p ∈ before, sp p.block = true) → DataW.TrodVars enc P W' sp s.vars (s.fn H (ds ++ gs)).vars pv)
  (hps : before = pa ++ pv) (hb : Below W.heap.size W W')
  (hok : ∀ (j : Nat) (t : TypeId) (r : Value), f.resultTypes[j]? = some t → (v.resultList f.resultTypes.size)[j]? = some r → Value.okWide P W' .any 0 t r) :
  s.post enc P f apart fresh handsOn again W args v W' := by
 have hlt : ∀ p ∈ before, p.block < W.heap.size := fun p hp => hW.lt p hp
 have hold : ∀ p ∈ before, (fun b => decide (b < W.heap.size)) p.block = true := fun p hp => by simpa using hlt p hp
 refine ⟨ds, gs, before, [], pa, pv, hW, hres _ _ _, hargs _ hold, hvars _ hold, World.keptBut_mono (fun p hp => ⟨hp, ?_⟩) (hb.frame (· ∈ before)), fun _ => ?_⟩
 ·rw [hps, List.mem_append] at hp
  exact Or.inr hp
 ·obtain ⟨_, _, _, _, _, hz, hn⟩ := hW
  refine ⟨hok, _, _, ([] ++ pa) ++ pv, ⟨[] ++ pa, pv, trodAll_append (hargs _ (fun _ _ => rfl)) (hres _ _ _), hvars _ (fun _ _ => rfl), rfl, ?_, ?_⟩, ?_⟩
  ·intro b off hp
   have hin : MemPlace.cell b off ∈ before := by rw [hps]; simpa using hp
   rw [hb.frozen (hlt _ hin)]
   exact hz b off hin
  ·intro ha
   have := hn ha
   rw [hps] at this
   simpa using this
  ·intro p hp _
   rw [hps]
   simpa using hp
end
theorem laidOutSeat : laidOutB Tryz.prog = true := by kernel_rfl
theorem stays {H : Type} {enc : TypeId × Value → H} {t : TypeId} (hr : Tryz.prog.readableRec t = true) (hrow : decide (t < Tryz.prog.types.size) = true) {W W' : World} {v : Value} {d : DataW H} {ps : List MemPlace}
  (h : DataW.Trod enc Tryz.prog W 0 (fun _ => true) true t v d ps) (hb : Below W.heap.size W W') (hlt : ∀ x ∈ ps, x.block < W.heap.size) {sp : Nat → Bool} (hsp : ∀ x ∈ ps, sp x.block = true) :
  DataW.Trod enc Tryz.prog W' 0 sp true t v d ps :=
 WideElems.Trod_stays laidOutSeat hr (of_decide_eq_true hrow) h (fun x hx => hb.same (hlt x hx)) hsp
theorem int_range {n : Int} (h : (Lit.int .i64 n).wf = true) : -9223372036854775808 ≤ n ∧ n ≤ 9223372036854775807 := bounds_i64 h
section
variable {H : Type} {enc : TypeId × Value → H} {P : Program} {w : World} {base : Nat} {spare : Nat → Bool} {held : Bool}
theorem open_slice_fields {t e : TypeId} {fs : Array Field} {fuel : Nat} {cs : List Value} {x : DataW H × List MemPlace} (ht : P.underlying t = some (.slice e)) (he : P.underlying e = some (.struct fs))
  (hone : oneCellFields P fs = true) (hC : P.cellsOf e = fs.size) (h : DataW.trod enc P w base spare held fuel t cs = some x) :
  (cs = [.slice none 0 0] ∧ x = (.nil, [])) ∨
  ∃ (a : Addr) (len cap m : Nat) (D : Nat → DataW H) (Pl : Nat → List MemPlace), cs = [.slice (some a) len cap] ∧ base ≤ a.block ∧ len ≤ cap ∧ cap ≤ maxLen ∧ m = (if spare a.block then cap else len) ∧
   x = (.slice ((List.range len).map D) ((List.range (m - len)).map fun j => D (len + j)), MemPlace.row a (m * fs.size) ++ (List.range m).flatMap Pl) ∧
   ∀ i, i < m → ∃ (ys : List (DataW H × List MemPlace)) (n : Nat), D i = .agg (ys.map (·.1)) ∧ Pl i = ys.flatMap (·.2) ∧ ys.length = fs.size ∧
    ∀ (j : Nat) (f : Field), fs[j]? = some f → ∃ (v : Value) (y : DataW H × List MemPlace), w.cell? (a.add (i * fs.size + j)) = some v ∧ ys[j]? = some y ∧ DataW.trod enc P w base spare held n f.type [v] = some y := by
 rcases open_slice ht h with h0 | ⟨a, len, cap, m, n, D, Pl, hcs, hb, hl, hm, hmm, hx, hi⟩
 ·exact .inl h0
 ·refine .inr ⟨a, len, cap, m, D, Pl, hcs, hb, hl, hm, hmm, by rw [hC] at hx; exact hx, fun i him => ?_⟩
  obtain ⟨cs', hc, ht'⟩ := hi i him
  rw [hC] at hc
  obtain ⟨ys, n', hn', hy, hlen, hyl, hf⟩ := DataW.trod_struct he ht'
  obtain ⟨_, hcl, hat⟩ := World.cells?_some hc
  simp only [Prod.mk.injEq] at hy
  refine ⟨ys, n', hy.1, hy.2, hyl, fun j f hj => ?_⟩
  obtain ⟨ho, hk⟩ := hone_of hone j f hj
  have hjl : j < fs.size := (Array.getElem?_eq_some_iff.1 hj).1
  have hcell := hat j hjl
  have hv : cs'[j]? = some (cs'[j]'(by omega)) := List.getElem?_eq_getElem (by omega)
  have h1 := hf j f hj
  rw [ho, hk] at h1
  have hone' : (cs'.drop j).take 1 = [cs'[j]'(by omega)] := by
   rw [List.drop_eq_getElem_cons (by omega)]
   rfl
  rw [hone'] at h1
  have hys : ys[j]? = some (ys[j]'(by omega)) := List.getElem?_eq_getElem (by omega)
  refine ⟨_, _, ?_, hys, h1.trans hys⟩
  rw [← Go.Deep.add_add, hcell, hv]
end
section
variable {H : Type} {enc : TypeId × Value → H} {W : World}
theorem cell_plain {w : World} {a : Addr} {v : Value} (h : w.cell? a = some v) : a.spot = none := World.cell?_spot h
theorem add_plain {a : Addr} {j : Nat} (h : (a.add j).spot = none) : a.add j = ⟨a.block, a.off + j, none⟩ := by
 unfold Addr.add at *
 split at h
 ·rename_i h0
  simp only [h0]
  obtain ⟨b, o, s⟩ := a
  simp at h
  simp [h]
 ·simp_all
theorem bulk_pairs : ∀ (l : List (ByteArray × ByteArray)), Rows.uptoBulkAll (l.map fun p => DataW.agg (H := H) [.lit (.string p.1.data.toList), .lit (.string p.2.data.toList)]) = bulkF l
 | [] => rfl
 | p :: l => by
  simp only [List.map_cons, Rows.uptoBulkAll, Rows.uptoBulk, bulk_pairs l, bulkF, List.sum_cons, size_eq]
  omega
end
end Go.Proofs.YtbnafbdhomdcoaaGreatDoor
