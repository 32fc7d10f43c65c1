/-
  What ways have in common, and what is cut off: plain words.
-/
import Derived.Test.YtkhgnfofinpofaaRxP
namespace Go.Proofs.Ytkhgnfofinpofaa

abbrev Pw := Nat × List Pc
/-- A way's first text. -/
def txt (x : Pw) : ByteArray := match x.2 with
  | [] => ⟨#[]⟩
  | p :: _ => p.2
def preB (s p : ByteArray) : Bool := Lib.hasPrefix s.data.toList p.data.toList
theorem preB_empty {y t : ByteArray} (h : t.size = 0) : preB y t = true := by
  unfold preB Lib.hasPrefix
  have : t.data.toList = [] := by
    apply List.eq_nil_of_length_eq_zero
    rw [size_eq]
    exact h
  rw [this]
  simp
def shrink (y : ByteArray) : Nat → ByteArray → ByteArray
  | 0, t => t
  | n + 1, t => if preB y t = true then t else shrink y n (t.extract 0 (t.size - 1))
def comOne (y t : ByteArray) : ByteArray := shrink y t.size t
theorem comOne_yes {y t : ByteArray} (h : preB y t = true) : comOne y t = t := by
  unfold comOne
  cases t.size with
  | zero => rfl
  | succ n => exact if_pos h
theorem comOne_no {y t : ByteArray} (h : preB y t = false) : 0 < t.size ∧ comOne y t = comOne y (t.extract 0 (t.size - 1)) := by
  have hp : 0 < t.size := by
    by_cases e : t.size = 0
    · rw [preB_empty e] at h; cases h
    · omega
  refine ⟨hp, ?_⟩
  have hz := ext_size t (a := 0) (b := t.size - 1) (by omega) (by omega)
  unfold comOne
  rw [hz]
  obtain ⟨n, hn⟩ : ∃ n, t.size = n + 1 := ⟨t.size - 1, by omega⟩
  conv => lhs; rw [hn]; unfold shrink
  rw [if_neg (by rw [h]; simp), show t.size - 1 - 0 = n by omega]
theorem comOne_spec (y : ByteArray) : ∀ (n : Nat) (t : ByteArray), t.size ≤ n → (comOne y t).size ≤ t.size ∧ preB y (comOne y t) = true
  | n, t, hn => by
    cases h : preB y t
    · obtain ⟨h0, h1⟩ := comOne_no h
      have hz := ext_size t (a := 0) (b := t.size - 1) (by omega) (by omega)
      match n, hn with
      | 0, hn => omega
      | n + 1, hn =>
        obtain ⟨a, b⟩ := comOne_spec y n (t.extract 0 (t.size - 1)) (by omega)
        rw [h1]
        exact ⟨by omega, b⟩
    · rw [comOne_yes h]
      exact ⟨Nat.le_refl _, h⟩
theorem preB_size {y t : ByteArray} (h : preB y t = true) : t.size ≤ y.size := by
  unfold preB Lib.hasPrefix at h
  have h1 := (List.isPrefixOf_iff_prefix.1 h).length_le
  rw [size_eq, size_eq] at h1
  exact h1
def commonP (l : List Pw) : ByteArray := match l with
  | [] => ⟨#[]⟩
  | x :: l => (x :: l).foldl (fun t x => comOne (txt x) t) (txt x)
def cutOne (n : Nat) (x : Pw) : Pw := (x.1, if ((txt x).extract n (txt x).size).size = 0 then x.2.tail else (0, (txt x).extract n (txt x).size) :: x.2.tail)
def cutP (n : Nat) (l : List Pw) : List Pw := l.map (cutOne n)
theorem foldl_le (l : List Pw) : ∀ (t : ByteArray), (l.foldl (fun t x => comOne (txt x) t) t).size ≤ t.size := by
  induction l with
  | nil => exact fun t => Nat.le_refl _
  | cons x l ih => exact fun t => Nat.le_trans (ih _) (comOne_spec (txt x) _ t (Nat.le_refl _)).1
theorem foldl_all {l : List Pw} : ∀ (t : ByteArray), ∀ x ∈ l, (l.foldl (fun t x => comOne (txt x) t) t).size ≤ (txt x).size := by
  induction l with
  | nil => intro t x hx; cases hx
  | cons y l ih =>
    intro t x hx
    rw [List.foldl_cons]
    rcases List.mem_cons.1 hx with rfl | hx
    · have h1 := foldl_le l (comOne (txt x) t)
      have h2 := preB_size (comOne_spec (txt x) _ t (Nat.le_refl _)).2
      omega
    · exact ih _ x hx
theorem common_all {l : List Pw} {x : Pw} (hx : x ∈ l) : (commonP l).size ≤ (txt x).size := by
  cases l with
  | nil => cases hx
  | cons y l => exact foldl_all (l := y :: l) _ x hx
end Go.Proofs.Ytkhgnfofinpofaa
