/-
 TgNum, without what this claim does not reach.
-/
import Derived.Test.YtiohmnhbmmhnhaaGreatDoorZTgR
import Derived.Test.YtiohmnhbmmhnhaaGreatDoorZPlain
namespace Go.Proofs.YtiohmnhbmmhnhaaGreatDoor
open Go.RowKit Go.Shelf Go.Lib
def NumAt (s : ByteArray) (most base : Int) (k : Nat) (n : Int) (big : Bool) : Prop :=
 Digs base s k ∧ 0 ≤ n ∧ n ≤ most ∧ (big = false → n = numV base (s.data.toList.take k)) ∧ (big = true → most < numV base (s.data.toList.take k))
theorem NumAt.start (s : ByteArray) {most base : Int} (h : 0 ≤ most) : NumAt s most base 0 0 false := ⟨Digs.zero, Int.le_refl _, h, fun _ => rfl, fun h => by cases h⟩
section
variable {s : ByteArray} {most base n : Int} {k : Nat} (hk : k < s.size) (hb : 2 ≤ base) (h0 : 0 ≤ digV (bt s k)) (h1 : digV (bt s k) < base)
include hk hb h0 h1
theorem NumAt.big (h : NumAt s most base k n true) : NumAt s most base (k + 1) n true := by
 obtain ⟨a, b, c, _, e⟩ := h
 have e := e rfl
 have h2 := numV_at (base := base) hk
 have h3 := a.pos (by omega)
 have h4 : numV base (s.data.toList.take k) * 1 ≤ numV base (s.data.toList.take k) * base := Int.mul_le_mul_of_nonneg_left (by omega) h3
 exact ⟨a.succ hk h0 h1, b, c, fun h => by (cases h), fun _ => by omega⟩
theorem NumAt.on (h : NumAt s most base k n false) (ho : n * base + digV (bt s k) ≤ most) : NumAt s most base (k + 1) (n * base + digV (bt s k)) false := by
 obtain ⟨a, b, c, d, _⟩ := h
 have d := d rfl
 have h2 := numV_at (base := base) hk
 have h3 : 0 ≤ n * base := Int.mul_nonneg b (by omega)
 exact ⟨a.succ hk h0 h1, by omega, ho, fun _ => by rw [h2, ← d], fun h => by (cases h)⟩
end
end Go.Proofs.YtiohmnhbmmhnhaaGreatDoor
