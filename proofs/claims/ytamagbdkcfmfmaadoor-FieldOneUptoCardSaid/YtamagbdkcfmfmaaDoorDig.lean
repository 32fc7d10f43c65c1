/-
  Plain law: digits without noughts ahead say one number in one way.
-/
import Derived.Test.YtamagbdkcfmfmaaDoorMean
namespace Go.Proofs.YtamagbdkcfmfmaaDoor

def isDig (c : Int) : Bool := decide (48 ≤ c) && decide (c ≤ 57)
def stripL : List UInt8 → List UInt8
  | c :: d :: r => if (c.toNat : Int) = 48 then stripL (d :: r) else c :: d :: r
  | l => l
def strip (s : ByteArray) : ByteArray := ⟨(stripL s.data.toList).toArray⟩
/-- What the statement's 'digits' answers. -/
def digR (s : ByteArray) : ByteArray := if allB isDig s = true then strip s else ⟨#[]⟩
theorem bt_cons {s : ByteArray} {c : UInt8} {r : List UInt8} (h : s.data.toList = c :: r) : bt s 0 = (c.toNat : Int) := by
  unfold bt
  rw [h]
  rfl
theorem strip_step (s : ByteArray) (h1 : 1 < s.size) (h : bt s 0 = 48) : strip (s.extract 1 s.size) = strip s := by
  unfold strip
  congr 2
  rw [ext_all]
  have hl : 1 < s.data.toList.length := by rw [size_eq]; exact h1
  rcases e : s.data.toList with _ | ⟨c, _ | ⟨d, r⟩⟩
  · rw [e] at hl; simp at hl
  · rw [e] at hl; simp at hl
  · rw [bt_cons e] at h
    show stripL (d :: r) = stripL (c :: d :: r)
    rw [stripL, if_pos h]
theorem strip_stop (s : ByteArray) (h : ¬ (1 < s.size ∧ bt s 0 = 48)) : strip s = s := by
  unfold strip
  have : stripL s.data.toList = s.data.toList := by
    rcases e : s.data.toList with _ | ⟨c, _ | ⟨d, r⟩⟩
    · rfl
    · rfl
    · rw [stripL, if_neg]
      intro hc
      refine h ⟨by rw [← size_eq, e]; simp, by rw [bt_cons e]; exact hc⟩
  rw [this]
/-- A number from whatever has been read on. -/
theorem numV_acc (l : List UInt8) : ∀ a : Int, l.foldl (fun n c => n * 10 + digV (c.toNat : Int)) a = a * 10 ^ l.length + numV 10 l := by
  refine snoc_ind (P := fun l => ∀ a : Int, l.foldl (fun n c => n * 10 + digV (c.toNat : Int)) a = a * 10 ^ l.length + numV 10 l) ?_ ?_ l
  · intro a; simp [numV]
  · intro l c ih a
    rw [List.foldl_append, numV_snoc, ih a, show (l ++ [c]).length = l.length + 1 by simp, Int.pow_succ, ← Int.mul_assoc]
    simp only [List.foldl_cons, List.foldl_nil]
    omega
theorem numV_cons (c : UInt8) (r : List UInt8) : numV 10 (c :: r) = digV (c.toNat : Int) * 10 ^ r.length + numV 10 r := by
  show (c :: r).foldl _ 0 = _
  rw [List.foldl_cons, numV_acc]
  simp
def Dig (l : List UInt8) : Prop := ∀ c ∈ l, 48 ≤ (c.toNat : Int) ∧ (c.toNat : Int) ≤ 57
theorem Dig.tail {c : UInt8} {r : List UInt8} (h : Dig (c :: r)) : Dig r := fun x hx => h x (List.mem_cons_of_mem _ hx)
theorem Dig.all {l : List UInt8} (h : Dig l) : l.all (digOk 10) = true := List.all_eq_true.2 fun c hc => digOk_iff.2 (digV_dec.2 (h c hc))
theorem dig_of_all {l : List UInt8} (h : l.all (digOk 10) = true) : Dig l := fun c hc => digV_dec.1 (digOk_iff.1 (List.all_eq_true.1 h c hc))
theorem numV_bounds {l : List UInt8} (h : Dig l) : 0 ≤ numV 10 l ∧ numV 10 l < 10 ^ l.length := by
  induction l with
  | nil => exact ⟨Int.le_refl _, by decide⟩
  | cons c r ih =>
    obtain ⟨h0, h1⟩ := ih h.tail
    have hd := digV_dec.2 (h c (by simp))
    have hp : (0 : Int) < 10 ^ r.length := Int.pow_pos (by omega)
    rw [numV_cons, List.length_cons, Int.pow_succ]
    have h2 := Int.mul_nonneg hd.1 (Int.le_of_lt hp)
    have h3 : digV (c.toNat : Int) * 10 ^ r.length ≤ 9 * 10 ^ r.length := Int.mul_le_mul_of_nonneg_right (by omega) (Int.le_of_lt hp)
    constructor <;> omega
theorem numV_strip (l : List UInt8) : numV 10 (stripL l) = numV 10 l := by
  induction l with
  | nil => rfl
  | cons c l ih =>
    cases l with
    | nil => rfl
    | cons d r =>
      rw [stripL]
      split
      · rename_i h
        rw [ih, numV_cons c, h]
        simp [digV]
      · rfl
theorem strip_dig {l : List UInt8} (h : Dig l) : Dig (stripL l) := by
  induction l with
  | nil => exact h
  | cons c l ih =>
    cases l with
    | nil => exact h
    | cons d r =>
      rw [stripL]
      split
      · exact ih h.tail
      · exact h
theorem strip_ne {l : List UInt8} (h : l ≠ []) : stripL l ≠ [] := by
  induction l with
  | nil => exact absurd rfl h
  | cons c l ih =>
    cases l with
    | nil => exact h
    | cons d r =>
      rw [stripL]
      split
      · exact ih (by simp)
      · exact h
/-- No nought ahead. -/
def Canonical (l : List UInt8) : Prop := ∀ c d r, l = c :: d :: r → (c.toNat : Int) ≠ 48
theorem strip_canon (l : List UInt8) : Canonical (stripL l) := by
  induction l with
  | nil => intro c d r h; cases h
  | cons c l ih =>
    cases l with
    | nil => intro a b r h; cases h
    | cons d r =>
      rw [stripL]
      split
      · exact ih
      · rename_i hc
        intro a b r' h
        injection h with h1 _
        rw [← h1]
        exact hc
theorem digits_eq : ∀ (l m : List UInt8), l.length = m.length → Dig l → Dig m → numV 10 l = numV 10 m → l = m
  | [], [], _, _, _, _ => rfl
  | [], _ :: _, h, _, _, _ => by simp at h
  | _ :: _, [], h, _, _, _ => by simp at h
  | c :: l, d :: m, h, hl, hm, he => by
    have h' : l.length = m.length := by simpa using h
    have b1 := numV_bounds hl.tail
    have b2 := numV_bounds hm.tail
    have c1 := digV_dec.2 (hl c (by simp))
    have c2 := digV_dec.2 (hm d (by simp))
    rw [numV_cons, numV_cons, ← h'] at he
    rw [← h'] at b2
    have hp : (0 : Int) < 10 ^ l.length := Int.pow_pos (by omega)
    have hv : digV (c.toNat : Int) = digV (d.toNat : Int) := by
      generalize (10 : Int) ^ l.length = p at *
      rcases Int.lt_trichotomy (digV (c.toNat : Int)) (digV (d.toNat : Int)) with h | h | h
      · have : (digV (c.toNat : Int) + 1) * p ≤ digV (d.toNat : Int) * p := Int.mul_le_mul_of_nonneg_right (by omega) (by omega)
        rw [Int.add_mul] at this
        omega
      · exact h
      · have : (digV (d.toNat : Int) + 1) * p ≤ digV (c.toNat : Int) * p := Int.mul_le_mul_of_nonneg_right (by omega) (by omega)
        rw [Int.add_mul] at this
        omega
    rw [hv] at he
    have ht := digits_eq l m h' hl.tail hm.tail (by omega)
    have hcd : c = d := by
      rw [digV_val (hl c (by simp)), digV_val (hm d (by simp))] at hv
      exact UInt8.toNat_inj.1 (by omega)
    rw [hcd, ht]
theorem canon_low {l : List UInt8} (hl : Dig l) (hc : Canonical l) (h2 : 2 ≤ l.length) : 10 ^ (l.length - 1) ≤ numV 10 l := by
  rcases l with _ | ⟨c, _ | ⟨d, r⟩⟩
  · simp at h2
  · simp at h2
  · have h := hc c d r rfl
    have hd := hl c (by simp)
    have b := numV_bounds hl.tail
    rw [numV_cons, digV_val hd, show (c :: d :: r).length - 1 = (d :: r).length from rfl]
    have hp : (0 : Int) < 10 ^ (d :: r).length := Int.pow_pos (by omega)
    have : 1 * 10 ^ (d :: r).length ≤ ((c.toNat : Int) - 48) * 10 ^ (d :: r).length := Int.mul_le_mul_of_nonneg_right (by omega) (Int.le_of_lt hp)
    omega
theorem ten_le {a b : Nat} (h : a ≤ b) : (10 : Int) ^ a ≤ 10 ^ b := by
  obtain ⟨d, rfl⟩ := Nat.exists_eq_add_of_le h
  clear h
  induction d with
  | zero => exact Int.le_refl _
  | succ d ih =>
    have hp : (0 : Int) < 10 ^ (a + d) := Int.pow_pos (by omega)
    rw [← Nat.add_assoc, Int.pow_succ]
    omega
theorem canon_len {l m : List UInt8} (hl : Dig l) (hm : Dig m) (hcm : Canonical m) (h0 : l ≠ []) (he : numV 10 l = numV 10 m) : m.length ≤ l.length := by
  rcases Nat.lt_or_ge l.length m.length with h | h
  · have hp := List.length_pos_iff.2 h0
    have b := numV_bounds hl
    have c := canon_low hm hcm (by omega)
    have : (10 : Int) ^ l.length ≤ 10 ^ (m.length - 1) := ten_le (by omega)
    omega
  · exact h
theorem canon_eq {l m : List UInt8} (hl : Dig l) (hm : Dig m) (hcl : Canonical l) (hcm : Canonical m) (h0 : l ≠ []) (h1 : m ≠ []) (he : numV 10 l = numV 10 m) : l = m :=
  digits_eq l m (Nat.le_antisymm (canon_len hm hl hcl h1 he.symm) (canon_len hl hm hcm h0 he)) hl hm he
theorem isDig_iff {c : Int} : isDig c = true ↔ (48 ≤ c ∧ c ≤ 57) := by simp [isDig]
theorem allB_dig {s : ByteArray} (h : Dig s.data.toList) : allB isDig s = true := List.all_eq_true.2 fun c hc => isDig_iff.2 (h c hc)
/-- What is known of an element that says a length. -/
theorem dec_dig {s : ByteArray} (h : 0 ≤ decV s) : 0 < s.size ∧ Dig s.data.toList ∧ decV s = numV 10 s.data.toList := by
  have e : (numR s 1099511627776 10).2 = 0 := by
    rcases Classical.em ((numR s 1099511627776 10).2 = 0) with e | e
    · exact e
    · rw [decV_no e] at h; omega
  have hd := (decV_ok e).1
  unfold numR at e hd
  by_cases h1 : s.size = 0 ∨ s.data.toList.all (digOk 10) = false
  · rw [if_pos h1] at e; cases e
  · rw [if_neg h1] at e hd
    by_cases h2 : 1099511627776 < numV 10 s.data.toList
    · rw [if_pos h2] at e; cases e
    · rw [if_neg h2] at hd
      have h3 : s.data.toList.all (digOk 10) = true := by
        cases e : s.data.toList.all (digOk 10)
        · exact absurd (.inr e) h1
        · rfl
      exact ⟨by omega, dig_of_all h3, hd⟩
theorem digR_ok {s : ByteArray} (h : Dig s.data.toList) : digR s = strip s := by unfold digR; rw [if_pos (allB_dig h)]
theorem data_ne {s : ByteArray} (h : 0 < s.size) : s.data.toList ≠ [] := fun e => by
  rw [← size_eq, e] at h
  simp at h
theorem digR_facts {s : ByteArray} (h : 0 ≤ decV s) : 0 < (digR s).size ∧ (digR s).size ≤ s.size ∧ Dig (digR s).data.toList ∧ numV 10 (digR s).data.toList = decV s := by
  obtain ⟨h0, h1, h2⟩ := dec_dig h
  have hs : ∀ l : List UInt8, (stripL l).length ≤ l.length := by
    intro l
    induction l with
    | nil => exact Nat.le_refl _
    | cons c l ih =>
      cases l with
      | nil => exact Nat.le_refl _
      | cons d r =>
        rw [stripL]
        split
        · exact Nat.le_trans ih (Nat.le_succ _)
        · exact Nat.le_refl _
  rw [digR_ok h1]
  refine ⟨?_, ?_, strip_dig h1, ?_⟩
  · rw [← size_eq]; exact List.length_pos_iff.2 (strip_ne (data_ne h0))
  · have := hs s.data.toList
    rw [← size_eq, ← size_eq s]
    exact this
  · show numV 10 (stripL s.data.toList) = _
    rw [numV_strip, h2]
theorem digR_same {s t : ByteArray} (h : 0 ≤ decV s) (h' : 0 ≤ decV t) (he : decV s = decV t) : digR s = digR t := by
  obtain ⟨h0, h1, h2⟩ := dec_dig h
  obtain ⟨g0, g1, g2⟩ := dec_dig h'
  rw [digR_ok h1, digR_ok g1]
  unfold strip
  rw [canon_eq (strip_dig h1) (strip_dig g1) (strip_canon _) (strip_canon _) (strip_ne (data_ne h0)) (strip_ne (data_ne g0)) (by rw [numV_strip, numV_strip, ← h2, ← g2, he])]
theorem numV_more {l : List UInt8} (hl : Dig l) : ∀ m : List UInt8, Dig m → numV 10 l ≤ numV 10 (l ++ m) := by
  refine snoc_ind (fun _ => by rw [List.append_nil]; exact Int.le_refl _) fun m c ih hm => ?_
  have hmm : Dig m := fun x hx => hm x (by simp [hx])
  have h1 := ih hmm
  have hlm : Dig (l ++ m) := fun x hx => by
    rcases List.mem_append.1 hx with h | h
    · exact hl x h
    · exact hmm x h
  have h2 := numV_mono (b := 10) (l := l ++ m) (c := c) (by omega) (numV_bounds hlm).1 (digV_dec.2 (hm c (by simp))).1
  rw [List.append_assoc] at h2
  omega
theorem numV_take {l : List UInt8} (h : Dig l) (k : Nat) : numV 10 (l.take k) ≤ numV 10 l := by
  have := numV_more (l := l.take k) (fun x hx => h x (List.mem_of_mem_take hx)) (l.drop k) (fun x hx => h x (List.mem_of_mem_drop hx))
  rwa [List.take_append_drop] at this

/-! What framing says of lengths and codings. -/
theorem lengthR_some {vs : List ByteArray} {n : Int} (h : lengthR vs = (n, true, 0)) : vs ≠ [] ∧ (listR vs).2 = 0 ∧ ∃ x xs, (listR vs).1 = x :: xs ∧ n = decV x ∧ ∀ y ∈ x :: xs, 0 ≤ decV y ∧ decV y = decV x := by
  by_cases hv : vs = []
  · subst hv; cases h
  · refine ⟨hv, ?_⟩
    by_cases he : (listR vs).2 = 0
    · refine ⟨he, ?_⟩
      rw [lengthR_ok hv he] at h
      cases hl : (listR vs).1 with
      | nil => rw [hl] at h; cases h
      | cons x xs =>
        rw [hl] at h
        refine ⟨x, xs, rfl, ?_⟩
        unfold lenR at h
        simp only at h
        split at h
        · rename_i hall
          injection h with h1 _
          refine ⟨h1.symm, fun y hy => ?_⟩
          have := List.all_eq_true.1 hall y hy
          simp at this
          exact this
        · cases h
    · rw [lengthR_err hv he] at h; cases h
theorem lengthR_cases (vs : List ByteArray) : (vs = [] ∧ lengthR vs = (0, false, 0)) ∨ (vs ≠ [] ∧ lengthR vs = (0, false, 66)) ∨ (vs ≠ [] ∧ ∃ n, lengthR vs = (n, true, 0)) := by
  by_cases hv : vs = []
  · subst hv; exact .inl ⟨rfl, rfl⟩
  · by_cases he : (listR vs).2 = 0
    · rw [lengthR_ok hv he]
      cases hl : (listR vs).1 with
      | nil => exact .inr (.inl ⟨hv, rfl⟩)
      | cons x xs =>
        unfold lenR
        simp only
        split
        · exact .inr (.inr ⟨hv, _, rfl⟩)
        · exact .inr (.inl ⟨hv, rfl⟩)
    · rw [lengthR_err hv he]; exact .inr (.inl ⟨hv, rfl⟩)
theorem codR_cases (vs : List ByteArray) : (vs = [] ∧ codR vs = ([], false, 0)) ∨ (vs ≠ [] ∧ codR vs = ([], false, 67)) ∨ (vs ≠ [] ∧ ∃ x, codR vs = (x, true, 0)) := by
  by_cases hv : vs = []
  · subst hv; exact .inl ⟨rfl, rfl⟩
  · by_cases he : (tokR (listR vs)).2 = 0
    · rw [codR_ok hv he]; exact .inr (.inr ⟨hv, _, rfl⟩)
    · rw [codR_err hv he]; exact .inr (.inl ⟨hv, rfl⟩)
theorem fram_err {vt vc : List ByteArray} {old : Bool} {k n e : Int} (h : framR (codR vt) (lengthR vc) old = (k, n, e)) (he : e ≠ 0) : k = 0 ∧ n = 0 ∧ (vc ≠ [] ∨ vt ≠ []) := by
  rcases codR_cases vt with ⟨h1, e1⟩ | ⟨h1, e1⟩ | ⟨h1, x, e1⟩ <;> rcases lengthR_cases vc with ⟨h2, e2⟩ | ⟨h2, e2⟩ | ⟨h2, m, e2⟩
  all_goals
    rw [e1, e2] at h
    unfold framR at h
    repeat' split at h
    all_goals
      injection h with ha hb
      injection hb with hb hc
      subst ha hb hc
      first
        | exact absurd rfl he
        | exact ⟨rfl, rfl, .inl h2⟩
        | exact ⟨rfl, rfl, .inr h1⟩
        | simp_all
theorem fram_ok {vt vc : List ByteArray} {old : Bool} {k n : Int} (h : framR (codR vt) (lengthR vc) old = (k, n, 0)) :
    (k = 0 ∧ n = 0 ∧ vc = [] ∧ vt = []) ∨ (k = 2 ∧ n = 0 ∧ vc = [] ∧ vt ≠ [] ∧ old = false) ∨ (k = 1 ∧ vt = [] ∧ vc ≠ [] ∧ lengthR vc = (n, true, 0)) := by
  rcases codR_cases vt with ⟨h1, e1⟩ | ⟨h1, e1⟩ | ⟨h1, x, e1⟩ <;> rcases lengthR_cases vc with ⟨h2, e2⟩ | ⟨h2, e2⟩ | ⟨h2, m, e2⟩
  all_goals
    rw [e1, e2] at h
    rw [e2]
    unfold framR at h
    repeat' split at h
    all_goals
      injection h with ha hb
      injection hb with hb hc
      subst ha hb
      first
        | (cases hc; done)
        | exact .inl ⟨rfl, rfl, h2, h1⟩
        | exact .inr (.inr ⟨rfl, h1, h2, rfl⟩)
        | (refine .inr (.inl ⟨rfl, rfl, h2, h1, ?_⟩); cases old; · rfl
           · simp_all)
        | simp_all
end Go.Proofs.YtamagbdkcfmfmaaDoor
