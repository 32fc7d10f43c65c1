/-
  Plain law: the elements of several values are those of the one that joins them.
-/
import Derived.Test.YtamagbdkcfmfmaaDoorStrs
namespace Go.Proofs.YtamagbdkcfmfmaaDoor

def mk (l : List UInt8) : ByteArray := ⟨l.toArray⟩
/-- A list's state behind a piece begun before. -/
def El.shift (cur : List UInt8) (acc : List ByteArray) : El → El
  | .out c [] => .out (cur ++ c) acc
  | .out c (p :: ps) => .out c (acc ++ mk (cur ++ p.data.toList) :: ps)
  | .quo c [] => .quo (cur ++ c) acc
  | .quo c (p :: ps) => .quo c (acc ++ mk (cur ++ p.data.toList) :: ps)
  | .esc c [] => .esc (cur ++ c) acc
  | .esc c (p :: ps) => .esc c (acc ++ mk (cur ++ p.data.toList) :: ps)
  | .bad => .bad
theorem El.shift_step (cur : List UInt8) (acc : List ByteArray) (e : El) (b : UInt8) : (e.shift cur acc).step b = (e.step b).shift cur acc := by
  cases e with
  | bad => rfl
  | out c a =>
    cases a with
    | nil =>
      simp only [El.shift, El.step]
      split
      · simp
      · split
        · simp [mk]
        · simp
    | cons p ps =>
      simp only [El.shift, El.step]
      split
      · simp
      · split
        · simp
        · simp
  | quo c a =>
    cases a with
    | nil =>
      simp only [El.shift, El.step]
      split
      · simp
      · split
        · simp
        · split <;> simp
    | cons p ps =>
      simp only [El.shift, El.step]
      split
      · simp
      · split
        · simp
        · split <;> simp
  | esc c a =>
    cases a with
    | nil =>
      simp only [El.shift, El.step]
      split <;> simp
    | cons p ps =>
      simp only [El.shift, El.step]
      split <;> simp
theorem El.shift_fold (cur : List UInt8) (acc : List ByteArray) (l : List UInt8) : ∀ e : El, l.foldl El.step (e.shift cur acc) = (l.foldl El.step e).shift cur acc := by
  induction l with
  | nil => intro e; rfl
  | cons b l ih => intro e; rw [List.foldl_cons, List.foldl_cons, El.shift_step, ih]
theorem trim_sp (l : List UInt8) : trim (mk (32 :: l)) = trim (mk l) := by
  have h1 : (mk (32 :: l)).size = l.length + 1 := by rw [← size_eq]; rfl
  have h2 : bt (mk (32 :: l)) 0 = 32 := rfl
  have h4 := trimL_step (mk (32 :: l)) (by omega) (by rw [h2]; rfl)
  have h3 : (mk (32 :: l)).extract 1 (mk (32 :: l)).size = mk l := bytes_ext (by rw [ext_all]; rfl)
  rw [h3] at h4
  rw [← trim_comm, ← h4, trim_comm]
theorem clean_sp (l : List UInt8) : cleanL [mk (32 :: l)] = cleanL [mk l] := by rw [cleanL_one, cleanL_one, trim_sp]
theorem elems_out {v : ByteArray} {x : List ByteArray} (h : elems v = some x) : ∃ c a, v.data.toList.foldl El.step (.out [] []) = .out c a ∧ x = cleanL (a ++ [mk c]) := by
  unfold elems elRun at h
  generalize v.data.toList.foldl El.step (.out [] []) = e at h
  cases e with
  | out c a =>
    simp only [El.fin, Option.some.injEq] at h
    exact ⟨c, a, rfl, h.symm⟩
  | quo c a => cases h
  | esc c a => cases h
  | bad => cases h
theorem elRun_append (l m : List UInt8) (e : El) : elRun (l ++ m) e = elRun m (l.foldl El.step e) := by
  unfold elRun
  rw [List.foldl_append]
theorem run_tail (vs : List ByteArray) : ∀ (y : List ByteArray) (c : List UInt8) (a : List ByteArray), elemsAll vs = some y → elRun (Lib.joinTail [44, 32] (vs.map (·.data.toList))) (.out c a) = some (cleanL (a ++ [mk c]) ++ y) := by
  induction vs with
  | nil =>
    intro y c a h
    simp only [elemsAll, Option.some.injEq] at h
    subst h
    simp [Lib.joinTail, elRun, El.fin, mk]
  | cons v vs ih =>
    intro y c a h
    simp only [elemsAll] at h
    split at h
    · cases h
    · rename_i x hx
      split at h
      · cases h
      · rename_i z hz
        injection h with h
        subst h
        obtain ⟨c', a', hf, rfl⟩ := elems_out hx
        have e1 : Lib.joinTail [44, 32] ((v :: vs).map (·.data.toList)) = 44 :: 32 :: (v.data.toList ++ Lib.joinTail [44, 32] (vs.map (·.data.toList))) := by
          simp [Lib.joinTail]
        rw [e1, elRun_cons, elRun_cons]
        have e2 : ((El.out c a).step 44).step 32 = (El.out [] []).shift [32] (a ++ [mk c]) := rfl
        rw [e2, elRun_append, El.shift_fold, hf]
        cases a' with
        | nil =>
          simp only [El.shift]
          rw [ih z _ _ hz]
          congr 1
          rw [cleanL_append, List.nil_append]
          show _ ++ cleanL [mk (32 :: c')] ++ z = _
          rw [clean_sp, List.append_assoc]
        | cons p ps =>
          simp only [El.shift]
          rw [ih z _ _ hz]
          congr 1
          rw [show a ++ [mk c] ++ mk ([32] ++ p.data.toList) :: ps ++ [mk c'] = (a ++ [mk c]) ++ ([mk (32 :: p.data.toList)] ++ (ps ++ [mk c'])) by simp, cleanL_append (a ++ [mk c]), cleanL_append [mk (32 :: p.data.toList)], clean_sp]
          rw [show p :: ps ++ [mk c'] = [mk p.data.toList] ++ (ps ++ [mk c']) by simp [mk], cleanL_append [mk p.data.toList]]
          simp only [List.append_assoc]
/-- The elements of the values as one are those of the values, one behind the other. -/
theorem elems_join {vs x : List ByteArray} (hv : vs ≠ []) (h : elemsAll vs = some x) : elems (joinR vs) = some x := by
  cases vs with
  | nil => exact absurd rfl hv
  | cons v vs =>
    simp only [elemsAll] at h
    split at h
    · cases h
    · rename_i y hy
      split at h
      · cases h
      · rename_i z hz
        injection h with h
        subst h
        obtain ⟨c, a, hf, rfl⟩ := elems_out hy
        unfold elems joinR
        show elRun (Lib.join ((v :: vs).map (·.data.toList)) [44, 32]) _ = _
        rw [List.map_cons, Lib.join_cons, elRun_append, hf, run_tail vs z c a hz]
theorem joinR_size {vs : List ByteArray} (h : vs ≠ []) : (joinR vs).size + 2 ≤ (vs.map (·.size)).sum + vs.length * 2 := by
  cases vs with
  | nil => exact absurd rfl h
  | cons x r =>
    have h5 : (joinR (x :: r)).size = (Lib.join ((x :: r).map (·.data.toList)) [44, 32]).length := by rw [← size_eq]; rfl
    have : ∀ l : List ByteArray, Lib.lens (l.map (·.data.toList)) = (l.map (·.size)).sum := by
      intro l
      induction l with
      | nil => rfl
      | cons y l ih => simp [Lib.lens, ← ih]
    rw [h5, List.map_cons, Lib.join_length, ← List.map_cons (f := fun x : ByteArray => x.data.toList), this]
    simp
    omega
theorem alike_self (a : ByteArray) : alike a a = true := by simp [alike]
theorem allV_one (name v : ByteArray) : allV [(name, v)] name = [v] := by simp [allV, alike_self]
end Go.Proofs.YtamagbdkcfmfmaaDoor
