/-
  RtOr, without what this claim does not reach.
-/
import Derived.Test.YtiohmnhbmmhnhaaGreatDoorZRtMd
namespace Go.Proofs.YtiohmnhbmmhnhaaGreatDoor
def rotR (n : Nat) (l : List Rt) : List Rt := l.drop n ++ l.take n
def rotN (n len k : Nat) : Nat := if n ≤ k then k - n else k + len - n
theorem rot_perm (n : Nat) (l : List Rt) : (rotR n l).Perm l := by
  unfold rotR
  have h : (l.drop n ++ l.take n).Perm (l.take n ++ l.drop n) := List.perm_append_comm
  rw [List.take_append_drop] at h
  exact h
theorem rot_mem {n : Nat} {l : List Rt} {r : Rt} : r ∈ rotR n l ↔ r ∈ l := (rot_perm n l).mem_iff
theorem rot_len (n : Nat) (l : List Rt) : (rotR n l).length = l.length := (rot_perm n l).length_eq
theorem rot_get {n k : Nat} {l : List Rt} (hn : n < l.length) (hk : k < l.length) : (rotR n l)[rotN n l.length k]? = l[k]? := by
  unfold rotR rotN
  by_cases h : n ≤ k
  · rw [if_pos h, List.getElem?_append_left (by rw [List.length_drop]; omega), List.getElem?_drop]
    congr 1
    omega
  · rw [if_neg h, List.getElem?_append_right (by rw [List.length_drop]; omega), List.length_drop, List.getElem?_take_of_lt (by omega)]
    congr 1
    omega
theorem shared_symm {a b : List ByteArray} (h : sharedM a b = true) : sharedM b a = true := by
  unfold sharedM at h ⊢
  rw [List.any_eq_true] at h ⊢
  obtain ⟨m, hm, h2⟩ := h
  exact ⟨m, inL_iff.1 h2, inL_iff.2 hm⟩
theorem cmp_symm {a b : ByteArray} (h : cmpR a b = (0, 0)) : cmpR b a = (0, 0) := by
  unfold cmpR at h ⊢
  by_cases hc : (splitP a).2.2 = true ∧ (splitP b).2.2 = true
  · rw [if_pos hc] at h
    rw [if_pos ⟨hc.2, hc.1⟩, ordP_anti]
    injection h with h1 h2
    rw [h1]
    rfl
  · rw [if_neg hc] at h
    cases h
theorem clash_symm {a b : Rt} (h : clashP a b = 0) : clashP b a = 0 := by
  unfold clashP at h ⊢
  by_cases he : a.2 = b.2
  · rw [if_neg (fun hn => hn he)] at h
    rw [if_neg (fun hn => hn he.symm)]
    by_cases hc : ((decide (a.1.length = 0) && decide (b.1.length = 0)) || sharedM a.1 b.1) = true
    · rw [if_pos hc] at h
      cases h
    · refine if_neg fun h2 => hc ?_
      rw [Bool.or_eq_true] at h2 ⊢
      rcases h2 with h2 | h2
      · rw [Bool.and_comm] at h2
        exact .inl h2
      · exact .inr (shared_symm h2)
  · rw [if_pos he] at h
    rw [if_pos (fun e => he e.symm)]
    by_cases hc : cmpR a.2 b.2 = (0, 0)
    · rw [if_pos hc] at h
      cases h
    · exact if_neg fun h2 => hc (cmp_symm h2)
theorem GoodL.rot {l : List Rt} (h : GoodL l) (n : Nat) : GoodL (rotR n l) :=
  ⟨fun r hr => h.one r (rot_mem.1 hr), ((rot_perm n l).pairwise_iff fun {_ _} h => clash_symm h).2 h.two⟩
theorem worst_zero' {ahead : List Rt} {r : Rt} (h : ∀ x ∈ ahead, clashP x r = 0) : worstP ahead r = 0 := by
  rw [worst_eq, if_neg, if_neg]
  · intro h2
    obtain ⟨x, hx, h3⟩ := List.any_eq_true.1 h2
    have := of_decide_eq_true h3
    rw [h x hx] at this
    cases this
  · intro h2
    obtain ⟨x, hx, h3⟩ := List.any_eq_true.1 h2
    have := of_decide_eq_true h3
    rw [h x hx] at this
    cases this
theorem good_go : ∀ (l ahead : List Rt) (i : Nat), GoodL (ahead ++ l) → newGo ahead l i = (0, 0)
  | [], _, _, _ => rfl
  | r :: rest, ahead, i, h => by
    unfold newGo
    have h1 : wrongP r = 0 := h.one r (by simp)
    have h2 : worstP ahead r = 0 := worst_zero' fun x hx => by
      have := List.pairwise_append.1 h.two
      exact this.2.2 x hx r (List.mem_cons_self ..)
    rw [if_neg (fun hn => hn h1), if_neg (fun hn => hn h2)]
    exact good_go rest (ahead ++ [r]) (i + 1) (by rw [List.append_assoc]; exact h)
theorem good_new {l : List Rt} (h : GoodL l) (hl : l.length ≤ 256) : newP l = (0, 0) := by
  unfold newP
  rw [if_neg (by omega)]
  exact good_go l [] 0 h
theorem TableAt.goodL {w : World} {t : Nat} {sl : Bool} {l : List Rt} (hT : TableAt w t sl l) : GoodL l ∧ l.length ≤ 256 := by
  obtain ⟨q, es, S, A, c, rs, h⟩ := hT
  exact ⟨h.goodl, h.few⟩
theorem pat_rot {w w' : World} {t u : Nat} {sl sl' : Bool} {n : Nat} {l : List Rt} (hT : TableAt w t sl l) (hU : TableAt w' u sl' (rotR n l)) (path : ByteArray) : patR (rotR n l) path = patR l path := by
  have h1 := hT.best path
  have h2 := hU.best path
  have e : (fun x => x ∈ (rotR n l).map (·.2)) = (fun x => x ∈ l.map (·.2)) := by
    funext x
    refine propext ?_
    rw [List.mem_map, List.mem_map]
    exact ⟨fun ⟨r, hr, e⟩ => ⟨r, rot_mem.1 hr, e⟩, fun ⟨r, hr, e⟩ => ⟨r, rot_mem.2 hr, e⟩⟩
  rw [e] at h2
  refine isBest_unique (fun a b ha hb h1 h2 => ?_) h2 h1
  have s1 := hT.split ha
  have s2 := hT.split hb
  rw [cmpI_ord s1 s2] at h1
  rw [cmpI_ord s2 s1, ordP_anti] at h2
  omega
theorem allow_rot (n : Nat) (l : List Rt) (g : Rt → Bool) : allowOf (rotR n l) g = allowOf l g := by
  obtain ⟨h1, h2⟩ := rising_fold leS_lt leS_not ltS_trans (withL (allR (rotR n l) g)) [] List.Pairwise.nil
  obtain ⟨h3, h4⟩ := rising_fold leS_lt leS_not ltS_trans (withL (allR l g)) [] List.Pairwise.nil
  refine rise_unique ltS_irr ltS_trans h1 h3 fun s => (h2 s).trans (Iff.trans ?_ (h4 s).symm)
  have key : ∀ z, z ∈ allR (rotR n l) g ↔ z ∈ allR l g := fun z => by
    unfold allR
    rw [List.mem_flatMap, List.mem_flatMap]
    constructor
    · rintro ⟨r, hr, hz⟩
      rw [List.mem_filter, rot_mem] at hr
      exact ⟨r, List.mem_filter.2 hr, hz⟩
    · rintro ⟨r, hr, hz⟩
      rw [List.mem_filter] at hr
      exact ⟨r, List.mem_filter.2 ⟨rot_mem.2 hr.1, hr.2⟩, hz⟩
  have hi : inL (allR (rotR n l) g) mGet = inL (allR l g) mGet := by
    rw [Bool.eq_iff_iff, inL_iff, inL_iff]
    exact key mGet
  have : s ∈ withL (allR (rotR n l) g) ↔ s ∈ withL (allR l g) := by
    unfold withL
    rw [hi, List.mem_append, List.mem_append, List.mem_append, List.mem_append, key s]
  rw [this]
def OneAt (f : Rt → Bool) (l : List Rt) : Prop := l.Pairwise fun a b => ¬ (f a = true ∧ f b = true)
theorem first_at {f : Rt → Bool} : ∀ {l : List Rt} {i k : Nat}, OneAt f l → (firstP f l i = some k ↔ i ≤ k ∧ ∃ r, l[k - i]? = some r ∧ f r = true)
  | [], i, k, _ => by simp [firstP]
  | x :: l, i, k, h => by
    obtain ⟨h1, h2⟩ := List.pairwise_cons.1 h
    unfold firstP
    by_cases hx : f x = true
    · rw [if_pos hx]
      constructor
      · intro e
        injection e with e
        subst e
        exact ⟨Nat.le_refl _, x, by simp, hx⟩
      · rintro ⟨hk, r, hr, hf⟩
        rcases Nat.lt_or_eq_of_le hk with hlt | e
        · rw [show k - i = (k - i - 1) + 1 by omega, List.getElem?_cons_succ] at hr
          exact absurd ⟨hx, hf⟩ (h1 r (List.mem_of_getElem? hr))
        · rw [e]
    · rw [if_neg hx, first_at h2]
      constructor
      · rintro ⟨hk, r, hr, hf⟩
        exact ⟨by omega, r, by rw [show k - i = (k - (i + 1)) + 1 by omega, List.getElem?_cons_succ]; exact hr, hf⟩
      · rintro ⟨hk, r, hr, hf⟩
        rcases Nat.lt_or_eq_of_le hk with hlt | e
        · rw [show k - i = (k - (i + 1)) + 1 by omega, List.getElem?_cons_succ] at hr
          exact ⟨by omega, r, hr, hf⟩
        · rw [e, Nat.sub_self] at hr
          injection hr with hr
          rw [hr] at hx
          exact absurd hf hx
theorem first_rot {f : Rt → Bool} {l : List Rt} {n : Nat} (hn : n < l.length) (h : OneAt f l) (h' : OneAt f (rotR n l)) : firstP f (rotR n l) 0 = (firstP f l 0).map (rotN n l.length) := by
  cases ho : firstP f l 0 with
  | some k =>
    obtain ⟨_, r, hr, hf⟩ := (first_at h).1 ho
    rw [Nat.sub_zero] at hr
    have hk := lt_of_some hr
    refine (first_at h').2 ⟨Nat.zero_le _, r, ?_, hf⟩
    rw [Nat.sub_zero, rot_get hn hk]
    exact hr
  | none =>
    cases ho' : firstP f (rotR n l) 0 with
    | none => rfl
    | some k' =>
      obtain ⟨_, r, hr, hf⟩ := (first_at h').1 ho'
      obtain ⟨k, hk, e⟩ := List.getElem_of_mem (rot_mem.1 (List.mem_of_getElem? hr))
      have := (first_at (i := 0) (k := k) h).2 ⟨Nat.zero_le _, r, by rw [Nat.sub_zero, List.getElem?_eq_getElem hk, e], hf⟩
      rw [ho] at this
      cases this
theorem one_at {l : List Rt} (h : GoodL l) {f : Rt → Bool} (hf : ∀ a b, f a = true → f b = true → ¬ clashP a b = 0) : OneAt f l := by
  unfold OneAt
  refine h.two.imp ?_
  intro a b hc hb
  exact hf a b hb.1 hb.2 hc
theorem clash_shared {a b : Rt} {m : ByteArray} (h : a.2 = b.2) (ha : m ∈ a.1) (hb : m ∈ b.1) : ¬ clashP a b = 0 := by
  unfold clashP
  rw [if_neg (fun hn => hn h), if_pos]
  · decide
  · rw [Bool.or_eq_true]
    exact .inr (List.any_eq_true.2 ⟨m, ha, inL_iff.2 hb⟩)
theorem clash_both {a b : Rt} (h : a.2 = b.2) (ha : a.1.length = 0) (hb : b.1.length = 0) : ¬ clashP a b = 0 := by
  unfold clashP
  rw [if_neg (fun hn => hn h), if_pos]
  · decide
  · rw [Bool.or_eq_true, Bool.and_eq_true]
    exact .inl ⟨decide_eq_true ha, decide_eq_true hb⟩
theorem or3_map {f : Nat → Nat} (a b c : Option Nat) : orElse3 (a.map f) (b.map f) (c.map f) = if 0 ≤ orElse3 a b c then ((f (orElse3 a b c).toNat : Nat) : Int) else -1 := by
  unfold orElse3
  cases a with
  | some i => simp
  | none =>
    cases b with
    | some i => simp
    | none =>
      cases c with
      | some i => simp
      | none => rfl
theorem found_rot {l : List Rt} {n : Nat} (hn : n < l.length) (h : GoodL l) (p m : ByteArray) : foundP (rotR n l) (plc p (rotR n l)) m = if 0 ≤ foundP l (plc p l) m then ((rotN n l.length (foundP l (plc p l) m).toNat : Nat) : Int) else -1 := by
  have h' := h.rot n
  unfold plc
  rw [serving_same, serving_same]
  unfold servingR
  have o1 : ∀ a b : Rt, (decide (a.2 = p) && inL a.1 m) = true → (decide (b.2 = p) && inL b.1 m) = true → ¬ clashP a b = 0 := fun a b ha hb => by
    rw [Bool.and_eq_true] at ha hb
    exact clash_shared ((of_decide_eq_true ha.1).trans (of_decide_eq_true hb.1).symm) (inL_iff.1 ha.2) (inL_iff.1 hb.2)
  have o2 : ∀ a b : Rt, (decide (a.2 = p) && (decide (m = mHead) && inL a.1 mGet)) = true → (decide (b.2 = p) && (decide (m = mHead) && inL b.1 mGet)) = true → ¬ clashP a b = 0 := fun a b ha hb => by
    rw [Bool.and_eq_true, Bool.and_eq_true] at ha hb
    exact clash_shared ((of_decide_eq_true ha.1).trans (of_decide_eq_true hb.1).symm) (inL_iff.1 ha.2.2) (inL_iff.1 hb.2.2)
  have o3 : ∀ a b : Rt, (decide (a.2 = p) && decide (a.1.length = 0)) = true → (decide (b.2 = p) && decide (b.1.length = 0)) = true → ¬ clashP a b = 0 := fun a b ha hb => by
    rw [Bool.and_eq_true] at ha hb
    exact clash_both ((of_decide_eq_true ha.1).trans (of_decide_eq_true hb.1).symm) (of_decide_eq_true ha.2) (of_decide_eq_true hb.2)
  rw [first_rot hn (one_at h o1) (one_at h' o1), first_rot hn (one_at h o2) (one_at h' o2), first_rot hn (one_at h o3) (one_at h' o3), or3_map]
def OrderP (n : Nat) (l : List Rt) (x y : Mt) : Prop :=
  x.kind = y.kind ∧ x.pat = y.pat ∧ x.dest = y.dest ∧ x.allow = y.allow ∧ x.par.length = y.par.length ∧
  ((¬ x.kind = 1 ∧ x.route = -1 ∧ y.route = -1) ∨ (x.kind = 1 ∧ ∃ k : Nat, k < l.length ∧ x.route = (k : Int) ∧ y.route = ((rotN n l.length k : Nat) : Int)))
theorem order_law {w w' : World} {t u : Nat} {n : Nat} {l : List Rt} (hn : n < l.length) (hT : TableAt w t true l) (hU : TableAt w' u true (rotR n l)) (method path : ByteArray) : OrderP n l (matchP l true method path) (matchP (rotR n l) true method path) := by
  have hg := hT.goodL.1
  unfold matchP
  rw [pat_rot hT hU path]
  cases hp : patR l path with
  | none =>
    by_cases hs : (segR path).2 = 0 ∧ true = true
    · rw [matchF_near hs, matchF_near hs, pat_rot hT hU (otherP path)]
      cases patR l (otherP path) with
      | none => exact ⟨rfl, rfl, rfl, rfl, rfl, .inl ⟨show ¬ (0 : Int) = 1 by decide, rfl, rfl⟩⟩
      | some q => exact ⟨rfl, rfl, rfl, rfl, rfl, .inl ⟨show ¬ (4 : Int) = 1 by decide, rfl, rfl⟩⟩
    · rw [matchF_no hs, matchF_no hs]
      exact ⟨rfl, rfl, rfl, rfl, rfl, .inl ⟨show ¬ (0 : Int) = 1 by decide, rfl, rfl⟩⟩
  | some p =>
    have hf := found_rot hn hg p method
    by_cases h : 0 ≤ foundP l (plc p l) method
    · rw [if_pos h] at hf
      rw [matchF_found h, matchF_found (by rw [hf]; exact Int.natCast_nonneg _)]
      obtain ⟨k, h1, h2⟩ := found_in h
      refine ⟨rfl, rfl, rfl, rfl, rfl, .inr ⟨rfl, k, plc_lt k h2, h1, ?_⟩⟩
      rw [hf, h1]
      rfl
    · rw [if_neg h] at hf
      rw [matchF_allow h, matchF_allow (by rw [hf]; decide), allow_rot]
      refine ⟨rfl, rfl, rfl, rfl, rfl, .inl ⟨?_, or3_neg h, hf⟩⟩
      show ¬ (if method = mOpt then 3 else 2 : Int) = 1
      split <;> decide
theorem put_len {α : Type} {le : α → α → Bool} {x : α} : ∀ {l : List α}, (putIn le x l).length = l.length + 1
  | [] => rfl
  | y :: l => by
    unfold putIn
    split
    · rfl
    · rw [List.length_cons, put_len, List.length_cons]
theorem rising_len {α : Type} [DecidableEq α] {le : α → α → Bool} : ∀ (l out : List α), (l.foldl (fun out s => if out.contains s then out else putIn le s out) out).length ≤ out.length + l.length
  | [], _ => Nat.le_refl _
  | s :: l, out => by
    rw [List.foldl_cons, List.length_cons]
    have h := rising_len (le := le) l (if out.contains s then out else putIn le s out)
    have h2 : (if out.contains s then out else putIn le s out).length ≤ out.length + 1 := by
      split
      · omega
      · rw [put_len]
        exact Nat.le_refl _
    omega
theorem allR_len (g : Rt → Bool) : ∀ l : List Rt, (allR l g).length ≤ bulkRt l
  | [] => Nat.le_refl _
  | r :: l => by
    have h := allR_len g l
    have h1 := sum1_len r.1
    rw [bulkRt_cons]
    unfold allR at h ⊢
    unfold bulk1
    rw [List.filter_cons]
    split
    · rw [List.flatMap_cons, List.length_append]
      omega
    · omega
theorem allow_len {l : List Rt} (hk : bulkRt l ≤ 1048576) (g : Rt → Bool) : (allowOf l g).length ≤ 1048578 := by
  have h1 := rising_len (le := leS) (withL (allR l g)) []
  have h2 := allR_len g l
  have h3 : (withL (allR l g)).length ≤ (allR l g).length + 2 := by
    unfold withL
    rw [List.length_append, List.length_append]
    split <;> simp
  have h4 : (allowOf l g).length ≤ ([] : List ByteArray).length + (withL (allR l g)).length := h1
  rw [List.length_nil] at h4
  omega
theorem match_len {w : World} {t : Nat} {sl : Bool} {l : List Rt} (hT : TableAt w t sl l) (method path : ByteArray) : (matchP l sl method path).allow.length ≤ 1048578 := by
  obtain ⟨_, _, _, _, _, _, h⟩ := hT
  unfold matchP
  cases patR l path with
  | none =>
    by_cases hs : (segR path).2 = 0 ∧ sl = true
    · rw [matchF_near hs]
      cases patR l (otherP path) with
      | none => exact Nat.zero_le _
      | some q => exact Nat.zero_le _
    · rw [matchF_no hs]
      exact Nat.zero_le _
  | some p =>
    by_cases hf : 0 ≤ foundP l (plc p l) method
    · rw [matchF_found hf]
      exact Nat.zero_le _
    · rw [matchF_allow hf]
      exact allow_len h.bulk _
theorem rot_mod {N L k : Nat} (hN : N < L) (hk : k < L) : Int.tmod ((k : Int) - N + L) L = ((rotN N L k : Nat) : Int) := by
  rw [Int.tmod_eq_emod_of_nonneg (by omega)]
  unfold rotN
  by_cases h : N ≤ k
  · rw [if_pos h, Int.add_emod_right, Int.emod_eq_of_lt (by omega) (by omega)]
    omega
  · rw [if_neg h, Int.emod_eq_of_lt (by omega) (by omega)]
    omega
end Go.Proofs.YtiohmnhbmmhnhaaGreatDoor
