/-
  A pattern's edges: plain words.
-/
import Derived.Test.YtkhgnfofinpofaaRxP
namespace Go.Proofs.Ytkhgnfofinpofaa

def slashR : ByteArray := ⟨#[47]⟩
def stepsGo : List Pc → Nat → ByteArray → List Pc → List Pc
  | [], _, t, out => if t.size = 0 then out else out ++ [(0, t)]
  | p :: l, k, t, out => if p.1 = 0 then stepsGo l (k + 1) ((if k = 0 then t else t ++ slashR) ++ p.2) out
    else stepsGo l (k + 1) ⟨#[]⟩ ((if (if k = 0 then t else t ++ slashR).size = 0 then out else out ++ [(0, if k = 0 then t else t ++ slashR)]) ++ [p])
def stepsP (l : List Pc) : List Pc := stepsGo l 0 ⟨#[]⟩ []
def totP (l : List Pc) : Nat := (l.map fun p => p.2.size + 1).sum
theorem totP_cons (p : Pc) (l : List Pc) : totP (p :: l) = p.2.size + 1 + totP l := by simp [totP]
theorem totP_len (l : List Pc) : l.length ≤ totP l := by
  induction l with
  | nil => exact Nat.le_refl _
  | cons p l ih => rw [totP_cons, List.length_cons]; omega
theorem slash_size (t : ByteArray) : (t ++ slashR).size = t.size + 1 := ByteArray.size_append
section
variable {p : Pc} {l out : List Pc} {k : Nat} {t : ByteArray}
theorem steps_first_text (h : p.1 = 0) (h0 : k = 0) : stepsGo (p :: l) k t out = stepsGo l (k + 1) (t ++ p.2) out := by
  conv => lhs; unfold stepsGo
  rw [if_pos h, if_pos h0]
theorem steps_text (h : p.1 = 0) (h0 : ¬ k = 0) : stepsGo (p :: l) k t out = stepsGo l (k + 1) (t ++ slashR ++ p.2) out := by
  conv => lhs; unfold stepsGo
  rw [if_pos h, if_neg h0]
theorem steps_first_edge (h : ¬ p.1 = 0) (h0 : k = 0) (ht : t.size = 0) : stepsGo (p :: l) k t out = stepsGo l (k + 1) ⟨#[]⟩ (out ++ [p]) := by
  conv => lhs; unfold stepsGo
  rw [if_neg h, if_pos h0, if_pos ht]
theorem steps_edge (h : ¬ p.1 = 0) (h0 : ¬ k = 0) : stepsGo (p :: l) k t out = stepsGo l (k + 1) ⟨#[]⟩ (out ++ [(0, t ++ slashR)] ++ [p]) := by
  conv => lhs; unfold stepsGo
  rw [if_neg h, if_neg h0, if_neg (by rw [slash_size]; omega)]
theorem steps_end (ht : t.size = 0) : stepsGo [] k t out = out := if_pos ht
theorem steps_end_text (ht : ¬ t.size = 0) : stepsGo [] k t out = out ++ [(0, t)] := if_neg ht
end
theorem drop_of_some {α : Type} {l : List α} {k : Nat} {x : α} (h : l[k]? = some x) : l.drop k = x :: l.drop (k + 1) := by
  obtain ⟨hk, hx⟩ := List.getElem?_eq_some_iff.1 h
  rw [List.drop_eq_getElem_cons hk, hx]
end Go.Proofs.Ytkhgnfofinpofaa
