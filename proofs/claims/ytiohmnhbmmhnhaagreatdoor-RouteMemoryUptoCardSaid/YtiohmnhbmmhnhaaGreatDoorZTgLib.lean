/-
 TgLib, without what this claim does not reach.
-/
import Derived.Test.YtiohmnhbmmhnhaaGreatDoorZTgEn
import Derived.Test.YtiohmnhbmmhnhaaGreatDoorZTgH
import Derived.Lib.AppendIntMem
namespace Go.Proofs.YtiohmnhbmmhnhaaGreatDoor
open Go.RowKit Go.Shelf Go.Lib
def cutVal (r : ByteArray × ByteArray × Bool) : Value := .tuple #[.string r.1, .string r.2.1, .bool r.2.2]
theorem Cut_any (s : ByteArray) (c : UInt8) (w : World) (hs : s.size ≤ 4194304) (hg : Glob w) :
  Calls Tryz.prog 51 #[.string s, .string ⟨#[c]⟩] w fun e w' => e = .returned (cutVal (cutW s c.toNat)) ∧ ∃ q : Nat, w' = w.drewN q := by
 obtain ⟨m, hm⟩ := hg.maxl
 refine (Tryz.strings_Cut s ⟨#[c]⟩ m w (by omega) hm).mono fun e w' ⟨he, hw⟩ => ⟨?_, hw⟩
 obtain ⟨h1, h2, h3⟩ := cut_eq s c
 rw [he]
 unfold cutVal
 rw [← h1, ← h2, ← h3]
theorem Split_any (s : ByteArray) (c : UInt8) (w : World) (hs : s.size ≤ 4194304) (hg : Glob w) :
  Calls Tryz.prog 59 #[.string s, .string ⟨#[c]⟩] w fun e w' => e = .returned (.slice (some ⟨w.heap.size, 0, none⟩) (splitC s c.toNat).length (splitC s c.toNat).length) ∧ w' = w.alloc (.cells ((splitC s c.toNat).map Value.string).toArray 9) := by
 obtain ⟨m, hm⟩ := hg.maxl
 obtain ⟨h1, h2⟩ := splitB_eq c s.size s (Nat.le_refl _)
 refine (Tryz.strings_Split s ⟨#[c]⟩ m w (by omega) hm (by show 1 ≤ 1; omega)).mono fun e w' ⟨he, hw⟩ => ⟨?_, ?_⟩
 ·rw [he, h2]
 ·rw [hw, h1]
theorem Has_any (s : ByteArray) (c : UInt8) (w : World) :
  Calls Tryz.prog 62 #[.string s, .string ⟨#[c]⟩] w fun e w' => e = .returned (.bool (inB s c.toNat)) ∧ w = w' := by
 refine (Tryz.strings_Contains_one s c w).mono fun e w' ⟨he, hw⟩ => ⟨?_, hw.symm⟩
 rw [he]
 have h := indexByte_eq s (c.toNat : Int) (by omega) (by have := c.toNat_lt; omega)
 rw [show ((c.toNat : Int)).toNat.toUInt8 = c by simp] at h
 rw [h]
 have := inB_find s c.toNat
 cases e : inB s c.toNat
 ·rw [this.2 e]; rfl
 ·have := this.1 e
  exact ret_bool (decide_eq_true this)
def heads (s : ByteArray) (c : Int) : Bool := decide (0 < s.size) && decide (bt s 0 = c)
def ends (s : ByteArray) (c : Int) : Bool := decide (0 < s.size) && decide (bt s (s.size - 1) = c)
theorem data_cons {s : ByteArray} (h : 0 < s.size) : ∃ (x : UInt8) (r : List UInt8), s.data.toList = x :: r ∧ bt s 0 = (x.toNat : Int) := by
 rcases e : s.data.toList with _ | ⟨x, r⟩
 ·rw [← size_eq, e] at h; simp at h
 ·exact ⟨x, r, rfl, by unfold bt; rw [e]; rfl⟩
theorem byte_beq (c x : UInt8) : (c == x) = decide ((x.toNat : Int) = (c.toNat : Int)) := by
 rw [Bool.eq_iff_iff]
 simp only [beq_iff_eq, decide_eq_true_eq]
 constructor
 ·rintro rfl; rfl
 ·intro h
  apply UInt8.toNat_inj.1
  omega
theorem prefix_one (s : ByteArray) (c : UInt8) : Lib.hasPrefix s.data.toList [c] = heads s c.toNat := by
 unfold Lib.hasPrefix heads
 by_cases h : 0 < s.size
 ·obtain ⟨x, r, e, hb⟩ := data_cons h
  rw [e, hb, decide_eq_true h, Bool.true_and]
  simp only [List.isPrefixOf, Bool.and_true]
  exact byte_beq c x
 ·have : s.data.toList = [] := List.eq_nil_of_length_eq_zero (by rw [size_eq]; omega)
  rw [this, decide_eq_false h]
  rfl
theorem Prefix_any (s : ByteArray) (c : UInt8) (w : World) :
  Calls Tryz.prog 123 #[.string s, .string ⟨#[c]⟩] w fun e w' => e = .returned (.bool (heads s c.toNat)) ∧ w = w' :=
 (Tryz.strings_HasPrefix s ⟨#[c]⟩ w).mono fun _ _ ⟨he, hw⟩ => ⟨by rw [he, ← prefix_one], hw.symm⟩
end Go.Proofs.YtiohmnhbmmhnhaaGreatDoor
