/-
  The library's functions on texts that layer 5 calls, in this seat's words; the reference's own cut and split.
-/
import Derived.Test.YtkhgnfofinpofaaTgEn
import Derived.Test.YtkhgnfofinpofaaTgH
import Derived.Lib.AppendIntMem
namespace Go.Proofs.Ytkhgnfofinpofaa
open Go.RowKit Go.Shelf Go.Lib

def cutVal (r : ByteArray × ByteArray × Bool) : Value := .tuple #[.string r.1, .string r.2.1, .bool r.2.2]
theorem Cut_any (s : ByteArray) (c : UInt8) (w : World) (hs : s.size ≤ 4194304) (hg : Glob w) :
    Calls Try.prog 45 #[.string s, .string ⟨#[c]⟩] w fun e w' => e = .returned (cutVal (cutW s c.toNat)) ∧ ∃ q : Nat, w' = w.drewN q := by
  obtain ⟨m, hm⟩ := hg.maxl
  refine (Try.strings_Cut s ⟨#[c]⟩ m w (by omega) hm).mono fun e w' ⟨he, hw⟩ => ⟨?_, hw⟩
  obtain ⟨h1, h2, h3⟩ := cut_eq s c
  rw [he]
  unfold cutVal
  rw [← h1, ← h2, ← h3]
def gapVal (s : ByteArray) : Value := if gap s < s.size then .tuple #[.string (s.extract 0 (gap s)), .string (s.extract (gap s + 2) s.size), .bool true] else .tuple #[.string s, .string ⟨#[]⟩, .bool false]
theorem CutGap_any (s : ByteArray) (w : World) (hs : s.size ≤ 4194304) (hg : Glob w) :
    Calls Try.prog 45 #[.string s, .string ⟨#[58, 58]⟩] w fun e w' => e = .returned (gapVal s) ∧ ∃ q : Nat, w' = w.drewN q := by
  obtain ⟨m, hm⟩ := hg.maxl
  refine (Try.strings_Cut s ⟨#[58, 58]⟩ m w (by omega) hm).mono fun e w' ⟨he, hw⟩ => ⟨?_, hw⟩
  rw [he]
  unfold gapVal
  rcases cut_gap s with ⟨h1, h2⟩ | ⟨k, h1, h2, h3⟩
  · obtain ⟨g1, g2, g3⟩ := Lib.cutB_miss s ⟨#[58, 58]⟩ h2
    rw [if_neg (by omega), g1, g2, g3]
    rfl
  · obtain ⟨g1, g2, g3⟩ := Lib.cutB_hit s ⟨#[58, 58]⟩ k h3
    rw [h1, if_pos (by omega), g1, g2, g3]
    rfl
def heads (s : ByteArray) (c : Int) : Bool := decide (0 < s.size) && decide (bt s 0 = c)
def ends (s : ByteArray) (c : Int) : Bool := decide (0 < s.size) && decide (bt s (s.size - 1) = c)
theorem data_cons {s : ByteArray} (h : 0 < s.size) : ∃ (x : UInt8) (r : List UInt8), s.data.toList = x :: r ∧ bt s 0 = (x.toNat : Int) := by
  rcases e : s.data.toList with _ | ⟨x, r⟩
  · rw [← size_eq, e] at h; simp at h
  · exact ⟨x, r, rfl, by unfold bt; rw [e]; rfl⟩
theorem byte_beq (c x : UInt8) : (c == x) = decide ((x.toNat : Int) = (c.toNat : Int)) := by
  rw [Bool.eq_iff_iff]
  simp only [beq_iff_eq, decide_eq_true_eq]
  constructor
  · rintro rfl; rfl
  · intro h
    apply UInt8.toNat_inj.1
    omega
theorem prefix_one (s : ByteArray) (c : UInt8) : Lib.hasPrefix s.data.toList [c] = heads s c.toNat := by
  unfold Lib.hasPrefix heads
  by_cases h : 0 < s.size
  · obtain ⟨x, r, e, hb⟩ := data_cons h
    rw [e, hb, decide_eq_true h, Bool.true_and]
    simp only [List.isPrefixOf, Bool.and_true]
    exact byte_beq c x
  · have : s.data.toList = [] := List.eq_nil_of_length_eq_zero (by rw [size_eq]; omega)
    rw [this, decide_eq_false h]
    rfl
theorem suffix_one (s : ByteArray) (c : UInt8) : Lib.hasSuffix s.data.toList [c] = ends s c.toNat := by
  unfold Lib.hasSuffix ends
  by_cases h : 0 < s.size
  · have hne : s.data.toList ≠ [] := by
      intro e
      rw [← size_eq, e] at h
      simp at h
    have e := List.dropLast_concat_getLast hne
    have hb : bt s (s.size - 1) = ((s.data.toList.getLast hne).toNat : Int) := by
      unfold bt
      rw [List.getLast_eq_getElem, ← size_eq, List.getD_eq_getElem?_getD, List.getElem?_eq_getElem]
      rfl
    rw [decide_eq_true h, Bool.true_and, hb]
    generalize s.data.toList.getLast hne = x at *
    generalize s.data.toList.dropLast = l at *
    rw [← e]
    unfold List.isSuffixOf
    rw [List.reverse_append]
    simp only [List.reverse_cons, List.reverse_nil, List.nil_append, List.cons_append, List.isPrefixOf, Bool.and_true]
    exact byte_beq c x
  · have : s.data.toList = [] := List.eq_nil_of_length_eq_zero (by rw [size_eq]; omega)
    rw [this, decide_eq_false h]
    rfl
theorem Prefix_any (s : ByteArray) (c : UInt8) (w : World) :
    Calls Try.prog 72 #[.string s, .string ⟨#[c]⟩] w fun e w' => e = .returned (.bool (heads s c.toNat)) ∧ w = w' :=
  (Try.strings_HasPrefix s ⟨#[c]⟩ w).mono fun _ _ ⟨he, hw⟩ => ⟨by rw [he, ← prefix_one], hw.symm⟩

end Go.Proofs.Ytkhgnfofinpofaa
