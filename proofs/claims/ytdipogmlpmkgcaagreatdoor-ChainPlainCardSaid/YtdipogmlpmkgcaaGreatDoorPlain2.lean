/-
  More plain words on texts: the blanks ahead of a piece.
-/
import Derived.Test.YtdipogmlpmkgcaaGreatDoorPlain
namespace Go.Proofs.YtdipogmlpmkgcaaGreatDoor

theorem bytes_ext {a b : ByteArray} (h : a.data.toList = b.data.toList) : a = b := by
  apply ByteArray.ext
  exact Array.ext' h
theorem ext_ext (s : ByteArray) (a b : Nat) : (s.extract a s.size).extract b (s.extract a s.size).size = s.extract (a + b) s.size := by
  apply bytes_ext
  rw [ext_all, ext_all, ext_all, List.drop_drop]
theorem lead_step (s : ByteArray) : ∀ (n a : Nat), Good (fun j => blank (bt s j)) a (a + n) → a + n ≤ s.size → trimL (s.extract a s.size) = trimL (s.extract (a + n) s.size)
  | 0, _, _, _ => rfl
  | n + 1, a, h, hs => by
    have hz := ext_size s (a := a) (b := s.size) (by omega) (Nat.le_refl _)
    have hb : bt (s.extract a s.size) 0 = bt s a := ext_bt s (j := 0) (by omega)
    rw [← trimL_step (s.extract a s.size) (by omega) (by rw [hb]; exact h a (Nat.le_refl _) (by omega)), ext_ext]
    have := lead_step s n (a + 1) (fun j h1 h2 => h j (by omega) (by omega)) (by omega)
    rw [this, show a + 1 + n = a + (n + 1) from by omega]
theorem lead_at (s : ByteArray) {a i : Nat} (h : Good (fun j => blank (bt s j)) a i) (ha : a ≤ i) (hi : i < s.size) (hb : blank (bt s i) = false) : (trimL (s.extract a s.size)).size = s.size - i := by
  have e := lead_step s (i - a) a (by rw [show a + (i - a) = i from by omega]; exact h) (by omega)
  rw [show a + (i - a) = i from by omega] at e
  have hz := ext_size s (a := i) (b := s.size) (by omega) (Nat.le_refl _)
  have hb' : bt (s.extract i s.size) 0 = bt s i := ext_bt s (j := 0) (by omega)
  rw [e, trimL_stop _ (.inr (by rw [hb']; exact hb)), hz]
theorem lead_end (s : ByteArray) {a : Nat} (h : Good (fun j => blank (bt s j)) a s.size) (ha : a ≤ s.size) : (trimL (s.extract a s.size)).size = 0 := by
  have e := lead_step s (s.size - a) a (by rw [show a + (s.size - a) = s.size from by omega]; exact h) (by omega)
  rw [show a + (s.size - a) = s.size from by omega] at e
  have hz := ext_size s (a := s.size) (b := s.size) (by omega) (Nat.le_refl _)
  rw [e, trimL_stop _ (.inl (by omega)), hz]
  omega
theorem good_128 {s : ByteArray} {i : Nat} (h : Good (fun j => decide (j < 128) && sign (bt s j)) 0 i) : i ≤ 128 := by
  rcases Nat.lt_or_ge 128 i with hlt | hge
  · have := h 128 (by omega) hlt
    simp at this
  · exact hge
end Go.Proofs.YtdipogmlpmkgcaaGreatDoor
