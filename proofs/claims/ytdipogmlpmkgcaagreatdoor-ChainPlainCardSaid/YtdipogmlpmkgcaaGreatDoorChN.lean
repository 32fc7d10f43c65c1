/-
  The table's digits are those of its statuses, and of no other number.
-/
import Derived.Test.YtdipogmlpmkgcaaGreatDoorChQ
namespace Go.Proofs.YtdipogmlpmkgcaaGreatDoor
open Go.RowKit Go.Shelf Go.Lib

theorem dec_one {m : Nat} (h : m < 10) : (Lib.decDigits m).length = 1 := by rw [dec_small h]; rfl
theorem dec_pos (m : Nat) : 1 ≤ (Lib.decDigits m).length := by
  by_cases h : m < 10
  · rw [dec_one h]; exact Nat.le_refl _
  · rw [dec_step (by omega), List.length_append]; simp
theorem dec_len_step {m : Nat} (h : 10 ≤ m) : (Lib.decDigits m).length = (Lib.decDigits (m / 10)).length + 1 := by
  rw [dec_step h, List.length_append]; rfl
theorem dec_three {m : Nat} (h : 100 ≤ m) (h2 : m < 1000) : Lib.decDigits m = [UInt8.ofNat (48 + m / 100), UInt8.ofNat (48 + m / 10 % 10), UInt8.ofNat (48 + m % 10)] := by
  rw [dec_step (by omega), dec_step (m := m / 10) (by omega), dec_small (m := m / 10 / 10) (by omega)]
  have e : m / 10 / 10 % 10 = m / 100 := by omega
  rw [e]
  rfl
theorem dec_len {m : Nat} (h : (Lib.decDigits m).length = 3) : 100 ≤ m ∧ m < 1000 := by
  by_cases h1 : m < 10
  · rw [dec_one h1] at h; omega
  · rw [dec_len_step (by omega)] at h
    by_cases h2 : m / 10 < 10
    · rw [dec_one h2] at h; omega
    · rw [dec_len_step (m := m / 10) (by omega)] at h
      by_cases h3 : m / 10 / 10 < 10
      · omega
      · rw [dec_len_step (m := m / 10 / 10) (by omega)] at h
        have := dec_pos (m / 10 / 10 / 10)
        omega
theorem u8_dig {a b : Nat} (ha : a < 10) (hb : b < 10) (h : UInt8.ofNat (48 + a) = UInt8.ofNat (48 + b)) : a = b := by
  have h2 := congrArg UInt8.toNat h
  rw [UInt8.toNat_ofNat', UInt8.toNat_ofNat'] at h2
  omega
def digT (m : Nat) : ByteArray := ⟨#[UInt8.ofNat (48 + m / 100), UInt8.ofNat (48 + m / 10 % 10), UInt8.ofNat (48 + m % 10)]⟩
theorem tab_digits : ∀ x ∈ tabR, x.2.1 = digT x.1.toNat := by decide +kernel
theorem itoa_three {n : Int} (h : 100 ≤ n) (h2 : n < 1000) : itoaT n = digT n.toNat := by
  apply bytes_ext
  show Lib.itoa n = _
  unfold Lib.itoa
  rw [if_neg (by omega), dec_three (by omega) (by omega)]
  rfl
theorem bytes_list {a b : List UInt8} (h : (⟨a.toArray⟩ : ByteArray) = ⟨b.toArray⟩) : a = b := by
  have := congrArg (fun x : ByteArray => x.data.toList) h
  simpa using this
theorem tab_same (n : Int) : ∀ x ∈ tabR, x.2.1 = dig12 n ↔ x.1 = n := by
  intro x hx
  obtain ⟨r0, r1⟩ := tab_range x hx
  rw [tab_digits x hx]
  constructor
  · intro h
    unfold dig12 at h
    by_cases hn : n < 0
    · rw [if_pos hn] at h
      have h2 := congrArg ByteArray.size h
      exact absurd (show (3 : Nat) = 1 from h2) (by decide)
    · rw [if_neg hn] at h
      have h2 : Lib.itoa n = [UInt8.ofNat (48 + x.1.toNat / 100), UInt8.ofNat (48 + x.1.toNat / 10 % 10), UInt8.ofNat (48 + x.1.toNat % 10)] := (bytes_list h).symm
      unfold Lib.itoa at h2
      rw [if_neg hn] at h2
      obtain ⟨l0, l1⟩ := dec_len (m := n.toNat) (by rw [h2]; rfl)
      rw [dec_three l0 l1] at h2
      injection h2 with a h2
      injection h2 with b h2
      injection h2 with c h2
      have a := u8_dig (by omega) (by omega) a
      have b := u8_dig (by omega) (by omega) b
      have c := u8_dig (by omega) (by omega) c
      omega
  · intro h
    subst h
    unfold dig12
    rw [if_neg (by omega), itoa_three r0 (by omega)]
end Go.Proofs.YtdipogmlpmkgcaaGreatDoor
