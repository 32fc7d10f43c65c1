/-
  The reference's split and digits: the walks.
-/
import Derived.Test.YtiohmnhbmmhnhaaGreatDoorTgLib
import Derived.Lib.ItoaLen
namespace Go.Proofs.YtiohmnhbmmhnhaaGreatDoor
open Go.RowKit Go.Shelf Go.Lib

theorem info_string : (Tryz.prog.info? 9).map (fun i => (i.zero, i.size, i.bytes)) = some (some (.string ⟨#[]⟩), 1, 16) := by kernel_rfl
/-- What a call hands back that makes a list of texts. -/
def GivesStrs (w : World) (ss : List ByteArray) (e : Ending) (w' : World) : Prop :=
  ∃ A c, e = .returned (.slice A ss.length c) ∧ w'.ownsRow w.heap.size 9 1 (.slice A ss.length c) ss.length (ss.map .string) ∧ Below w.heap.size w w'
theorem gives_strs {w w' : World} {ss : List ByteArray} {v : Value} (ho : w'.ownsRow w.heap.size 9 1 v ss.length (ss.map .string)) (hb : Below w.heap.size w w') : GivesStrs w ss (.returned v) w' := by
  obtain ⟨A, c, rfl⟩ := own_slice ho
  exact ⟨A, c, rfl, ho, hb⟩
theorem string_inj {a b : ByteArray} (h : Value.string a = .string b) : a = b := by injection h

/-! Digits. -/
def digsOf (m : Nat) : List UInt8 := if m = 0 then [] else Lib.decDigits m
theorem digsOf_step {m : Nat} (h : m ≠ 0) : digsOf m = digsOf (m / 10) ++ [UInt8.ofNat (48 + m % 10)] := by
  unfold digsOf
  rw [if_neg h]
  by_cases h10 : m < 10
  · rw [if_pos (by omega), Lib.decDigits_one h10, Nat.mod_eq_of_lt h10]
    rfl
  · rw [if_neg (by omega), Lib.decDigits, dif_neg h10]
theorem cat_data (b : UInt8) (l : List UInt8) : ((⟨#[b]⟩ : ByteArray) ++ (⟨l.toArray⟩ : ByteArray)).data.toList = b :: l := by
  rw [ByteArray.data_append]
  simp
theorem conv_one (w : World) (v : Int) (h0 : 0 ≤ v) (h1 : v < 256) : (convert 120 9 (.slice (some ⟨w.heap.size, 0, none⟩) 1 1)).run Tryz.prog (w.alloc (.cells #[.int .u8 v] 5)) = .ok (.string ⟨#[UInt8.ofNat v.toNat]⟩) (w.alloc (.cells #[.int .u8 v] 5)) := by
  have e : (Value.int .u8 v) = byteV (UInt8.ofNat v.toNat) := by
    unfold byteV
    rw [UInt8.toNat_ofNat']
    congr 1
    omega
  rw [e]
  have h : OwnB (w.alloc (.cells #[byteV (UInt8.ofNat v.toNat)] 5)) w.heap.size (.slice (some ⟨w.heap.size, 0, none⟩) 1 1) [UInt8.ofNat v.toNat] := World.ownsRow_lit w #[byteV (UInt8.ofNat v.toNat)] 1 (Nat.le_refl _) (by unfold maxLen; omega) rfl
  exact h.conv
end Go.Proofs.YtiohmnhbmmhnhaaGreatDoor
