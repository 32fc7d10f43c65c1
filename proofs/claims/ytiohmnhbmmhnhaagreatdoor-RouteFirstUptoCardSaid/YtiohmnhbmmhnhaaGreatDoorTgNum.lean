/-
  Numbers in digits: the walks of number, Decimal (program), number, Decimal, Hex (reference).
-/
import Derived.Test.YtiohmnhbmmhnhaaGreatDoorTgR
import Derived.Test.YtiohmnhbmmhnhaaGreatDoorPlain
namespace Go.Proofs.YtiohmnhbmmhnhaaGreatDoor
open Go.RowKit Go.Shelf Go.Lib

/-- How the reading of a number stands: k bytes read, the number so far, whether it is too great. -/
def NumAt (s : ByteArray) (most base : Int) (k : Nat) (n : Int) (big : Bool) : Prop :=
  Digs base s k ∧ 0 ≤ n ∧ n ≤ most ∧ (big = false → n = numV base (s.data.toList.take k)) ∧ (big = true → most < numV base (s.data.toList.take k))
theorem NumAt.start (s : ByteArray) {most base : Int} (h : 0 ≤ most) : NumAt s most base 0 0 false := ⟨Digs.zero, Int.le_refl _, h, fun _ => rfl, fun h => by cases h⟩
section
variable {s : ByteArray} {most base n : Int} {k : Nat} (hk : k < s.size) (hb : 2 ≤ base) (h0 : 0 ≤ digV (bt s k)) (h1 : digV (bt s k) < base)
include hk hb h0 h1
theorem NumAt.big (h : NumAt s most base k n true) : NumAt s most base (k + 1) n true := by
  obtain ⟨a, b, c, _, e⟩ := h
  have e := e rfl
  have h2 := numV_at (base := base) hk
  have h3 := a.pos (by omega)
  have h4 : numV base (s.data.toList.take k) * 1 ≤ numV base (s.data.toList.take k) * base := Int.mul_le_mul_of_nonneg_left (by omega) h3
  exact ⟨a.succ hk h0 h1, b, c, fun h => by (cases h), fun _ => by omega⟩
omit hb in
theorem NumAt.over (h : NumAt s most base k n false) (ho : most < n * base + digV (bt s k)) : NumAt s most base (k + 1) n true := by
  obtain ⟨a, b, c, d, _⟩ := h
  have d := d rfl
  have h2 := numV_at (base := base) hk
  exact ⟨a.succ hk h0 h1, b, c, fun h => by (cases h), fun _ => by rw [h2, ← d]; exact ho⟩
theorem NumAt.on (h : NumAt s most base k n false) (ho : n * base + digV (bt s k) ≤ most) : NumAt s most base (k + 1) (n * base + digV (bt s k)) false := by
  obtain ⟨a, b, c, d, _⟩ := h
  have d := d rfl
  have h2 := numV_at (base := base) hk
  have h3 : 0 ≤ n * base := Int.mul_nonneg b (by omega)
  exact ⟨a.succ hk h0 h1, by omega, ho, fun _ => by rw [h2, ← d], fun h => by (cases h)⟩
end
theorem quo_gt {n most base : Int} (hb : 0 < base) (_hn : 0 ≤ n) (_hm : 0 ≤ most) : most / base < n ↔ most < n * base := by
  rw [Int.ediv_lt_iff_lt_mul hb]



theorem numV_grow {s : ByteArray} {base : Int} (hb : 1 ≤ base) (h : Digs base s s.size) : ∀ (d k : Nat), k + d = s.size → numV base (s.data.toList.take k) ≤ numV base (s.data.toList.take s.size)
  | 0, k, e => by rw [Nat.add_zero] at e; rw [e]; exact Int.le_refl _
  | d + 1, k, e => by
    have hk : k < s.size := by omega
    have ih := numV_grow hb h d (k + 1) (by omega)
    have hpre : ∀ j, j ≤ s.size → Digs base s j := fun j hj => by
      unfold Digs at *
      rw [List.all_eq_true] at *
      intro x hx
      refine h x ?_
      rw [take_full]
      exact List.mem_of_mem_take hx
    have h1 := (hpre k (by omega)).pos (base := base) (by omega)
    have h2 := numV_at (base := base) hk
    have h3 : 0 ≤ digV (bt s k) := by
      have hl : k < s.data.toList.length := by rw [size_eq]; exact hk
      have := List.all_eq_true.1 h (s.data.toList[k]) (by rw [take_full]; exact List.getElem_mem hl)
      have e2 : ((s.data.toList[k].toNat : Nat) : Int) = bt s k := by
        unfold bt
        rw [List.getD_eq_getElem?_getD, List.getElem?_eq_getElem hl]
        rfl
      rw [digOk_iff, e2] at this
      exact this.1
    have h4 : numV base (s.data.toList.take k) * 1 ≤ numV base (s.data.toList.take k) * base := Int.mul_le_mul_of_nonneg_left hb h1
    omega
theorem digs_at {s : ByteArray} {base : Int} {k : Nat} (h : Digs base s s.size) (hk : k < s.size) : 0 ≤ digV (bt s k) ∧ digV (bt s k) < base := by
  have hl : k < s.data.toList.length := by rw [size_eq]; exact hk
  have := List.all_eq_true.1 h (s.data.toList[k]) (by rw [take_full]; exact List.getElem_mem hl)
  have e2 : ((s.data.toList[k].toNat : Nat) : Int) = bt s k := by
    unfold bt
    rw [List.getD_eq_getElem?_getD, List.getElem?_eq_getElem hl]
    rfl
  rw [digOk_iff, e2] at this
  exact this
theorem dgt_iff {c : Int} : isDgt c = true ↔ (0 ≤ digV c ∧ digV c < 10) := by rw [digV_dec]; simp [isDgt]
theorem quo_le {n most base v : Int} (hb : 0 < base) : (most - v) / base < n ↔ most < n * base + v := by
  rw [Int.ediv_lt_iff_lt_mul hb]
  omega

theorem hex_iff {c : Int} : isHexB c = true ↔ (0 ≤ digV c ∧ digV c < 16) := by
  have := digV_range c
  rw [isHexB_iff]
  omega


end Go.Proofs.YtiohmnhbmmhnhaaGreatDoor
