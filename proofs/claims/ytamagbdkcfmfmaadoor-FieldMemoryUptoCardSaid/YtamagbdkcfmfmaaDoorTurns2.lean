/-
  Set: the walk of the reference's.
-/
import Derived.Test.YtamagbdkcfmfmaaDoorTurns
namespace Go.Proofs.YtamagbdkcfmfmaaDoor
open Go.RowKit Go.Shelf Go.Lib

def refStep (name value : ByteArray) (s : List Fl × Bool) (p : Fl) : List Fl × Bool := if alike p.1 name = true then (if s.2 = false then (s.1 ++ [(name, value)], true) else (s.1, true)) else (s.1 ++ [p], s.2)
def refKept (l : List Fl) (name value : ByteArray) : List Fl × Bool := l.foldl (refStep name value) ([], false)
def refOut (r : List Fl × Bool) (name value : ByteArray) : List Fl := if r.2 = false then r.1 ++ [(name, value)] else r.1
theorem refKept_take {l : List Fl} {k : Nat} {p : Fl} (name value : ByteArray) (h : l[k]? = some p) : refKept (l.take (k + 1)) name value = refStep name value (refKept (l.take k) name value) p := by
  rw [take_snoc h]
  unfold refKept
  rw [List.foldl_append]
  rfl
theorem refStep_setStep (name value : ByteArray) (s : List Fl × Bool) (p : Fl) : refStep name value (s.1.map (setOne name value), s.2) p = ((setStep name s p).1.map (setOne name value), (setStep name s p).2) := by
  obtain ⟨o, d⟩ := s
  cases h : alike p.1 name <;> cases d <;> simp [refStep, setStep, setOne, h]
theorem refKept_setKept (l : List Fl) (name value : ByteArray) : refKept l name value = ((setKept l name).1.map (setOne name value), (setKept l name).2) := by
  have gen : ∀ (l : List Fl) (s : List Fl × Bool), l.foldl (refStep name value) (s.1.map (setOne name value), s.2) = ((l.foldl (setStep name) s).1.map (setOne name value), (l.foldl (setStep name) s).2) := by
    intro l
    induction l with
    | nil => intro s; rfl
    | cons p l ih =>
      intro s
      rw [List.foldl_cons, List.foldl_cons, refStep_setStep]
      exact ih _
  exact gen l ([], false)
theorem setKept_none (name value : ByteArray) (l : List Fl) (h : (setKept l name).2 = false) : (setKept l name).1.map (setOne name value) = l := by
  have up : ∀ (l : List Fl) (s : List Fl × Bool), s.2 = true → (l.foldl (setStep name) s).2 = true := by
    intro l
    induction l with
    | nil => intro s h; exact h
    | cons p l ih => intro s h; exact ih _ (by simp [setStep, h])
  have gen : ∀ (l : List Fl) (s : List Fl × Bool), s.2 = false → (l.foldl (setStep name) s).2 = false → (l.foldl (setStep name) s).1.map (setOne name value) = s.1.map (setOne name value) ++ l := by
    intro l
    induction l with
    | nil => intro s _ _; simp
    | cons p l ih =>
      intro s hs h
      rw [List.foldl_cons] at h ⊢
      cases hp : alike p.1 name with
      | true => rw [up l _ (by simp [setStep, hp])] at h; cases h
      | false =>
        rw [ih _ (by simp [setStep, hp, hs]) h]
        simp [setStep, hp, setOne]
  have := gen l ([], false) rfl h
  simpa [setKept] using this
theorem setL_ref {l : List Fl} {name value : ByteArray} : setL l name value = if isName name = false then ([], 60) else if isValue value = false then ([], 61) else if 100 < (refOut (refKept l name value) name value).length then ([], 65) else (refOut (refKept l name value) name value, 0) := by
  have hk := refKept_setKept l name value
  have hnone := setKept_none name value l
  rw [hk]
  unfold setL
  generalize setKept l name = r at hnone ⊢
  obtain ⟨o, d⟩ := r
  cases d with
  | false =>
    have e : o.map (setOne name value) = l := hnone rfl
    have ho : refOut (o.map (setOne name value), false) name value = l ++ [(name, value)] := by rw [e]; rfl
    simp only [if_true]
    rw [ho]
    cases h : isName name
    · rw [addL_name h]; rfl
    · cases h1 : isValue value
      · rw [addL_value h h1]; rfl
      · by_cases h2 : 100 ≤ l.length
        · rw [addL_many h h1 h2]; simp [show 100 < l.length + 1 by omega]
        · rw [addL_good h h1 h2]; simp [show ¬ 100 < l.length + 1 by omega]
  | true =>
    have ho : refOut (o.map (setOne name value), true) name value = o.map (setOne name value) := rfl
    rw [if_neg (by simp), ho, List.length_map]
    unfold wrongC
    simp only
    cases h : isName name
    · simp
    · cases h1 : isValue value
      · simp
      · by_cases h2 : 100 < o.length
        · have h3 : (100 : Int) < (o.length : Int) := by omega
          simp [h2, h3]
        · have h3 : ¬ (100 : Int) < (o.length : Int) := by omega
          simp [h2, h3]
theorem refKept_len (name value : ByteArray) (l : List Fl) : (refKept l name value).1.length ≤ l.length := by
  rw [refKept_setKept, List.length_map]
  exact setKept_len name l
end Go.Proofs.YtamagbdkcfmfmaaDoor
