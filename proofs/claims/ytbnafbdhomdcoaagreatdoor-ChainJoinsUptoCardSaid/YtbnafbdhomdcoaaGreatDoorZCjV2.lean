/-
 CjV2, without what this claim does not reach.
-/
import Derived.Test.YtbnafbdhomdcoaaGreatDoorZm26
import Derived.Test.YtbnafbdhomdcoaaGreatDoorZm13
namespace Go.Proofs.YtbnafbdhomdcoaaGreatDoor
open Go.RowKit Go.Shelf Go.Lib
def GivesTokO (w : World) (o : Option (List ByteArray)) (e : Ending) (w' : World) : Prop :=
 ∃ (A : Option Addr) (c : Nat) (l : List ByteArray) (x : Int), e = .returned (.tuple #[.slice A l.length c, .int .i64 x]) ∧ w'.ownsRow w.heap.size 9 1 (.slice A l.length c) l.length (l.map .string) ∧ (match o with
  | some k => l = k ∧ x = 0
  | none => ¬ x = 0) ∧ Below w.heap.size w w'
theorem toks_no {w w' : World} {x : Int} (hx : ¬ x = 0) (hb : Below w.heap.size w w') : GivesTokO w none (.returned (.tuple #[.slice none 0 0, .int .i64 x])) w' := ⟨none, 0, [], x, rfl, World.ownsRow_nil _ _ _ _, hx, hb⟩
theorem toks_yes {w w' : World} {A : Option Addr} {c : Nat} {l : List ByteArray} (ho : w'.ownsRow w.heap.size 9 1 (.slice A l.length c) l.length (l.map .string)) (hb : Below w.heap.size w w') : GivesTokO w (some l) (.returned (.tuple #[.slice A l.length c, .int .i64 0])) w' := ⟨A, c, l, 0, rfl, ho, ⟨rfl, rfl⟩, hb⟩
theorem mem_sum {l : List ByteArray} {x : ByteArray} (hx : x ∈ l) : x.size ≤ (l.map (·.size)).sum := by
 induction l with
 | nil => cases hx
 | cons y l ih =>
  rw [List.map_cons, List.sum_cons]
  rcases List.mem_cons.1 hx with rfl | hx
  ·omega
  ·have := ih hx; omega
set_option maxRecDepth 20000 in
set_option maxHeartbeats 1000000 in
theorem oTokens_any (s : ByteArray) (w : World) (hs : s.size ≤ 1048576) (hg : Glob w) :
  Calls Tryz.prog 110 #[.string s] w (GivesTokO w (toksO s)) := by
 have HL := Lib.hid (oList_any s w (by omega))
 cases he : elems s with
 | none =>
  have HO := Lib.hid (show toksO s = none by unfold toksO; rw [he])
  rw [he] at HL
  clear he
  rw [HO.out]
  go_enter Tryz.func110, Tryz.ntmps110
  go_wp2_with fail
  refine HL.out.mono ?_
  rintro e w1 ⟨A1, c1, rfl, _, hb⟩
  go_wp2
  go_ret2
  exact toks_no (by decide) hb
 | some l =>
  obtain ⟨hw1, hw2, hw3⟩ := elems_weight he
  clear hw2
  have HO := Lib.hid (show toksO s = if l.all isTok = true then some l else none by unfold toksO; rw [he])
  have HZ := Lib.hid (fun (x : ByteArray) (hx : x ∈ l) => (show x.size ≤ maxLen by have h := mem_sum hx; unfold maxLen; omega))
  rw [he] at HL
  clear he hw1
  go_enter Tryz.func110, Tryz.ntmps110
  go_wp2_with fail
  refine HL.out.mono ?_
  rintro e w1 ⟨A1, c1, rfl, hown, hb⟩
  have HRW := Lib.hid (show Row w1 A1 (l.map .string) from own_row hown)
  have HOW := Lib.hid hown
  have hg1 := hg.beyond hb
  have HT := Lib.hid (fun (s : ByteArray) (hs : s.size ≤ maxLen) => IsToken_any s w1 hs hg1)
  dsimp only [elE]
  clear hown HL
  go_wp2
  go_loop [18] (fun i => ∃ k : Nat, k ≤ l.length ∧ i = .int .i64 k ∧ Hid ((l.drop k).all isTok = l.all isTok)) (fun i => l.length - (RowKit.intOf i).toNat)
  case atStart => exact ⟨0, Nat.zero_le _, rfl, Lib.hid rfl⟩
  case round =>
   obtain ⟨k, hk, rfl, HF⟩ := hrel
   by_cases hlt : k < l.length
   ·obtain ⟨x, hx⟩ := some_of_lt hlt
    obtain ⟨b, off, rfl, hbl, hcell⟩ := HRW.out.str hx
    have hf := all_at (P := isTok) hx
    rw [HF.out] at hf
    have HF2 := Lib.hid hf
    have HTx := Lib.hid (HT.out x (HZ.out x (List.mem_of_getElem? hx)))
    clear hf hx HF
    cases h1 : isTok x
    ·rw [h1] at HTx HF2
     go_wp2_with fail
     refine HTx.out.mono ?_
     rintro e w2 ⟨rfl, rfl⟩
     go_wp2
     go_ret2
     have h2 : l.all isTok = false := by rw [HF2.out]; rfl
     rw [HO.out, h2]
     exact toks_no (by decide) hb
    ·rw [h1] at HTx HF2
     go_wp2_with fail
     refine HTx.out.mono ?_
     rintro e w2 ⟨rfl, rfl⟩
     go_wp2
     go_round
     case rel => exact ⟨k + 1, by omega, by go_num, Lib.hid (by rw [HF2.out]; simp)⟩
     case measure => simp [RowKit.intOf]; omega
   ·obtain rfl : k = l.length := by omega
    have h2 : l.all isTok = true := by rw [← HF.out, all_end]
    have H2 := Lib.hid h2
    clear h2 HF
    go_wp2
    go_ret2
    rw [HO.out, H2.out]
    exact toks_yes HOW.out hb
theorem rightBasic1_any (x : Int) (w : World) :
  Calls Tryz.prog 103 #[.int .i32 x] w fun e w' => e = .returned (.bool (ctlB x)) ∧ w = w' := by
 unfold ctlB
 cases h1 : decide (x < 32)
 ·have h2 : (x == 127) = decide (x = 127) := by rw [Bool.eq_iff_iff]; simp
  go_enter Tryz.func103, Tryz.ntmps103
  go_wp2
  go_ret
  exact ⟨ret_bool (by first | rfl | simp), rfl⟩
 ·go_enter Tryz.func103, Tryz.ntmps103
  go_wp2
  go_ret
  exact ⟨ret_bool (by first | rfl | simp), rfl⟩
theorem idxCtl_any (s : ByteArray) (w : World) :
  Calls Tryz.prog 102 #[.string s, .func (.func 103) #[] #[]] w fun e w' => e = .returned (.int .i64 (Lib.idxFunc ctlN true s)) ∧ Below w.heap.size w w' := by
 refine Tryz.strings_IndexFunc_grows 103 #[] (fun args w => Tryz.call103 args w) ctlN s w ?_
 intro W x _ _
 refine (rightBasic1_any (x : Int) W).mono fun e w' h => ⟨?_, ?_⟩
 ·rw [h.1, ctl_same (n := x) rfl]
 ·rw [← h.2]
  exact Below.refl _ _
end Go.Proofs.YtbnafbdhomdcoaaGreatDoor
