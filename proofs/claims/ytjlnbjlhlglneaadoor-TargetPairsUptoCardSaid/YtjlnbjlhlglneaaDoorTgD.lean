/-
  Plain laws: what was encoded is read back, and holds unreserved signs and percent triples alone.
-/
import Derived.Test.YtjlnbjlhlglneaaDoorTgP
namespace Go.Proofs.YtjlnbjlhlglneaaDoor

theorem drop_head {s : ByteArray} {i : Nat} {x : UInt8} {r : List UInt8} (h : s.data.toList.drop i = x :: r) : i < s.size ∧ bt s i = (x.toNat : Int) ∧ byteAt s i = x ∧ s.data.toList.drop (i + 1) = r := by
  have hl : i < s.data.toList.length := by
    rcases Nat.lt_or_ge i s.data.toList.length with h1 | h1
    · exact h1
    · rw [List.drop_eq_nil_iff.2 h1] at h; cases h
  rw [List.drop_eq_getElem_cons hl] at h
  injection h with h1 h2
  refine ⟨by rw [← size_eq]; exact hl, ?_, ?_, h2⟩
  · unfold bt
    rw [List.getD_eq_getElem?_getD, List.getElem?_eq_getElem hl, Option.getD_some, h1]
  · unfold byteAt
    rw [List.getD_eq_getElem?_getD, List.getElem?_eq_getElem hl, Option.getD_some, h1]
theorem pct_tab : ∀ n : Nat, n < 256 → (digV ((upDigits.data.toList.getD (n / 16) 0).toNat : Int) = ((n / 16 : Nat) : Int) ∧ digV ((upDigits.data.toList.getD (n % 16) 0).toNat : Int) = ((n % 16 : Nat) : Int)) ∧ (unres ((upDigits.data.toList.getD (n / 16) 0).toNat : Int) = true ∧ unres ((upDigits.data.toList.getD (n % 16) 0).toNat : Int) = true) := by decide +kernel
theorem unres_37 : unres 37 = false := by decide +kernel
/-- A triple that encoding wrote. -/
theorem tri_pct {s : ByteArray} {i : Nat} {b : UInt8} {r : List UInt8} (h : s.data.toList.drop i = pct b ++ r) : tri s i = true ∧ triB s i = b ∧ bt s i = 37 ∧ s.data.toList.drop (i + 3) = r := by
  obtain ⟨h1, h2, _, h3⟩ := drop_head (show _ = 37 :: _ from h)
  obtain ⟨h4, h5, _, h6⟩ := drop_head h3
  obtain ⟨h7, h8, _, h9⟩ := drop_head h6
  have hb := b.toNat_lt
  obtain ⟨⟨t1, t2⟩, _⟩ := pct_tab b.toNat hb
  have ht : tri s i = true := tri_iff.2 ⟨h7, h2, by rw [h5, t1]; omega, by rw [show i + 2 = i + 1 + 1 from rfl, h8, t2]; omega⟩
  refine ⟨ht, ?_, h2, h9⟩
  apply UInt8.toNat_inj.1
  have := triB_bt ht
  have e : triV s i = (b.toNat : Int) := by
    unfold triV
    rw [h5, t1, show i + 2 = i + 1 + 1 from rfl, h8, t2]
    omega
  omega
theorem dec_enc (s : ByteArray) : ∀ (l : List UInt8) (i : Nat) (acc : List UInt8), s.data.toList.drop i = encL l → decF s i acc = (acc ++ l, 0, true)
  | [], i, acc, h => by
    have : s.size ≤ i := by
      have := List.drop_eq_nil_iff.1 h
      rwa [size_eq] at this
    rw [decF_end this, List.append_nil]
  | b :: l, i, acc, h => by
    have e : encL (b :: l) = encB b ++ encL l := rfl
    rw [e] at h
    cases hu : unres (b.toNat : Int)
    · have eb : encB b = pct b := by unfold encB; rw [hu]; rfl
      rw [eb] at h
      obtain ⟨h1, h2, _, h4⟩ := tri_pct h
      rw [decF_tri h1, h2, dec_enc s l (i + 3) _ h4]
      simp
    · have eb : encB b = [b] := by unfold encB; rw [hu]; rfl
      rw [eb] at h
      obtain ⟨h1, h2, h3, h4⟩ := drop_head (show _ = b :: _ from h)
      have hne : bt s i ≠ 37 := by
        intro e
        rw [e] at h2
        rw [← h2, unres_37] at hu
        cases hu
      rw [decF_on h1 hne, h3, dec_enc s l (i + 1) _ h4]
      simp
theorem decR_enc (s : ByteArray) : decR (enc s) = (s, 0, 0) := by
  have h := dec_enc (enc s) s.data.toList 0 [] rfl
  unfold decR
  rw [h]
  rfl
def encSign (c : Int) : Bool := decide (c = 37) || unres c
theorem encB_signs (b : UInt8) : ∀ x ∈ encB b, encSign (x.toNat : Int) = true := by
  intro x hx
  unfold encB at hx
  cases hu : unres (b.toNat : Int)
  · rw [hu, if_neg (by simp)] at hx
    obtain ⟨_, t1, t2⟩ := pct_tab b.toNat b.toNat_lt
    simp only [pct, List.mem_cons, List.not_mem_nil, or_false] at hx
    rcases hx with rfl | rfl | rfl
    · rfl
    · unfold encSign; rw [t1]; simp
    · unfold encSign; rw [t2]; simp
  · rw [hu, if_pos rfl] at hx
    obtain rfl : x = b := by simpa using hx
    unfold encSign
    rw [hu]
    simp
theorem enc_signs (s : ByteArray) : allB encSign (enc s) = true := by
  unfold allB
  rw [List.all_eq_true]
  intro x hx
  have hx : x ∈ s.data.toList.flatMap encB := hx
  obtain ⟨b, _, hb⟩ := List.mem_flatMap.1 hx
  exact encB_signs b x hb
end Go.Proofs.YtjlnbjlhlglneaaDoor
