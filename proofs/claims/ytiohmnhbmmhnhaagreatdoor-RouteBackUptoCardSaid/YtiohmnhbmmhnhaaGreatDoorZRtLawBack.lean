/-
 RtLawBack, without what this claim does not reach.
-/
import Derived.Test.YtiohmnhbmmhnhaaGreatDoorZRtPw
import Derived.Test.YtiohmnhbmmhnhaaGreatDoorZRtRj
namespace Go.Proofs.YtiohmnhbmmhnhaaGreatDoor
open Go.RowKit Go.Shelf Go.Lib
theorem readF_inv (s : ByteArray) {Q : List Pc → Prop} (step : ∀ l a, Q l → a < s.size → wrongAt s (a + 1) = false → twice l (pcAt s (a + 1)) = false → Q (l ++ [pcAt s (a + 1)])) : ∀ (n : Nat) (l : List Pc) (a : Nat), s.size - a ≤ n → Q l → (readF s l a).2.2 = true → Q (readF s l a).1
 | n, l, a, hn, hq, h => by
  by_cases ha : a < s.size
  ·have h1 := endAt_spec s (a + 1) (by omega)
   have h2 := fromAt_ge s (a + 1)
   cases hb : (wrongAt s (a + 1) || twice l (pcAt s (a + 1)))
   ·rw [readF_on ha hb] at h ⊢
    rw [Bool.or_eq_false_iff] at hb
    match n, hn with
    | 0, hn => omega
    | n + 1, hn => exact readF_inv s step n _ _ (by omega) (step l a hq ha hb.1 hb.2) h
   ·rw [readF_bad ha hb] at h
    cases h
  ·rw [readF_end (by omega)]
   exact hq
theorem sign_path {c : Int} (h : signP c = true) : pathSign c = true := by
 unfold signP at h
 unfold pathSign
 rw [h]
 rfl
theorem stat_stop (s : ByteArray) (i e : Nat) (he : e ≤ s.size) : ∀ (n j : Nat), e - j ≤ n → i ≤ j → statE s j = (e, true) → stopF pathSign (s.extract i e) (j - i) = e - i
 | n, j, hn, hij, h => by
  have hsp := statE_spec s s.size j (by omega)
  have hz := ext_size s (a := i) (b := e)
  rw [statE_step] at h
  by_cases h1 : j < s.size ∧ ¬ bt s j = 47
  ·rw [if_pos h1] at h
   by_cases h2 : bt s j = 37
   ·rw [if_pos h2] at h
    by_cases h3 : j + 1 < s.size ∧ isHexB (bt s (j + 1)) = true
    ·rw [if_pos h3] at h
     by_cases h4 : j + 2 < s.size ∧ isHexB (bt s (j + 2)) = true
     ·rw [if_pos h4] at h
      have hle : j + 3 ≤ e := by
       have := (statE_spec s s.size (j + 3) (by omega) (by omega)).1
       rw [h] at this
       exact this
      have hz := hz (by omega) he
      have ht : tri (s.extract i e) (j - i) = true := by
       rw [tri_iff]
       rw [ext_bt s (by omega), ext_bt s (by omega), ext_bt s (by omega), show i + (j - i) = j by omega, show i + (j - i + 1) = j + 1 by omega, show i + (j - i + 2) = j + 2 by omega]
       refine ⟨by omega, h2, ?_, ?_⟩
       ·have := h3.2; unfold isHexB at this; simpa using this
       ·have := h4.2; unfold isHexB at this; simpa using this
      match n, hn with
      | 0, hn => omega
      | n + 1, hn =>
       rw [stopF_tri ht, show j - i + 3 = j + 3 - i by omega]
       exact stat_stop s i e he n (j + 3) (by omega) (by omega) h
     ·rw [if_neg h4] at h; cases h
    ·rw [if_neg h3] at h; cases h
   ·rw [if_neg h2] at h
    by_cases h3 : signP (bt s j) = true
    ·rw [if_pos h3] at h
     have hle : j + 1 ≤ e := by
      have := (statE_spec s s.size (j + 1) (by omega) (by omega)).1
      rw [h] at this
      exact this
     have hz := hz (by omega) he
     have hb : bt (s.extract i e) (j - i) = bt s j := by rw [ext_bt s (by omega), show i + (j - i) = j by omega]
     have ht : tri (s.extract i e) (j - i) = false := by
      cases hc : tri (s.extract i e) (j - i)
      ·rfl
      ·have := (tri_iff.1 hc).2.1
       rw [hb] at this
       exact absurd this h2
     match n, hn with
     | 0, hn => omega
     | n + 1, hn =>
      rw [stopF_on (by omega) ht (by rw [hb]; exact sign_path h3), show j - i + 1 = j + 1 - i by omega]
      exact stat_stop s i e he n (j + 1) (by omega) (by omega) h
    ·rw [if_neg h3] at h; cases h
  ·rw [if_neg h1] at h
   have e1 : j = e := congrArg Prod.fst h
   subst e1
   have hz := hz (by omega) he
   exact stopF_end (by omega)
theorem path_of_stop {t : ByteArray} (h : stopF pathSign t 0 = t.size) : isPathB ((⟨#[47]⟩ : ByteArray) ++ t) = true := by
 have hs : ((⟨#[47]⟩ : ByteArray) ++ t).size = 1 + t.size := by rw [ByteArray.size_append]; rfl
 unfold isPathB
 rw [decide_eq_true (show 0 < ((⟨#[47]⟩ : ByteArray) ++ t).size by omega), bt_left (by decide)]
 have h1 : stopF pathSign (⟨#[47]⟩ : ByteArray) 0 = (⟨#[47]⟩ : ByteArray).size := by decide +kernel
 have h2 := stop_left (P := pathSign) (by decide) (⟨#[47]⟩ : ByteArray) t (⟨#[47]⟩ : ByteArray).size 0 (by omega) (by omega) h1
 have h3 := stop_right pathSign (⟨#[47]⟩ : ByteArray) t t.size 0 (by omega)
 rw [Nat.add_zero, h] at h3
 unfold pathStop
 rw [h2, h3, hs]
 rw [decide_eq_true (show (⟨#[47]⟩ : ByteArray).size + t.size = 1 + t.size from rfl)]
 decide
theorem static_path {s : ByteArray} (h : (splitP s).2.2 = true) : ∀ p ∈ (splitP s).1, p.1 = 0 → isPathB ((⟨#[47]⟩ : ByteArray) ++ p.2) = true := by
 obtain ⟨_, _, _, _, _, _, _, _, hr⟩ := split_wf h
 rw [hr] at h ⊢
 refine readF_inv s (Q := fun l => ∀ p ∈ l, p.1 = 0 → isPathB ((⟨#[47]⟩ : ByteArray) ++ p.2) = true) ?_ s.size [] 0 (by omega) (fun p hp => by cases hp) h
 intro l a hq ha hw _ p hp h0
 rcases List.mem_append.1 hp with hp | hp
 ·exact hq p hp h0
 ·obtain rfl := List.mem_singleton.1 hp
  have hk : kindAt s (a + 1) = 0 := h0
  have he := endAt_spec s (a + 1) (by omega)
  have hgood : (endAt s (a + 1)).2 = true := by
   unfold wrongAt at hw
   rw [Bool.or_eq_false_iff] at hw
   simpa using hw.1
  show isPathB ((⟨#[47]⟩ : ByteArray) ++ s.extract (fromAt s (a + 1)) (endAt s (a + 1)).1) = true
  have hf : fromAt s (a + 1) = a + 1 := by unfold fromAt; rw [if_pos hk]
  have hen : endAt s (a + 1) = statE s (a + 1) := by unfold endAt; rw [if_pos hk]
  rw [hen] at he hgood ⊢
  rw [hf] at he ⊢
  rcases hst : statE s (a + 1) with ⟨e, b⟩
  rw [hst] at he hgood
  dsimp only at he hgood ⊢
  subst hgood
  refine path_of_stop ?_
  have := stat_stop s (a + 1) e he.2 _ (a + 1) (Nat.le_refl _) (Nat.le_refl _) hst
  rw [Nat.sub_self] at this
  rw [this, ext_size s he.1 he.2]
theorem names_differ {s : ByteArray} (h : (splitP s).2.2 = true) : (splitP s).1.Pairwise fun p q => p.1 ≠ 0 → q.1 ≠ 0 → p.2 ≠ q.2 := by
 obtain ⟨_, _, _, _, _, _, _, _, hr⟩ := split_wf h
 rw [hr] at h ⊢
 refine readF_inv s (Q := fun l => l.Pairwise fun p q => p.1 ≠ 0 → q.1 ≠ 0 → p.2 ≠ q.2) ?_ s.size [] 0 (by omega) List.Pairwise.nil h
 intro l a hq _ _ ht
 rw [List.pairwise_append]
 refine ⟨hq, List.pairwise_singleton _ _, fun p hp q hq => ?_⟩
 obtain rfl := List.mem_singleton.1 hq
 intro h1 h2 he
 unfold twice at ht
 rw [Bool.and_eq_false_iff] at ht
 rcases ht with ht | ht
 ·simp at ht
  exact h2 ht
 ·rw [List.any_eq_false] at ht
  have := ht p hp
  unfold sameName at this
  rw [decide_eq_false h1, decide_eq_true he] at this
  exact absurd rfl this
def vSize (vs : List Pr) (nm : ByteArray) : Nat := ((valOf vs nm).getD ⟨#[]⟩).size
theorem val_sum : ∀ (vs : List Pr) (ns : List ByteArray), ns.Nodup → (ns.map (vSize vs)).sum ≤ (vs.map fun p => p.1.size + p.2.1.size + 4).sum
 | [], ns, _ => by
  have : ∀ ns : List ByteArray, (ns.map (vSize [])).sum = 0 := fun ns => by
   induction ns with
   | nil => rfl
   | cons n ns ih => rw [List.map_cons, List.sum_cons, ih]; rfl
  rw [this]
  exact Nat.zero_le _
 | x :: vs, ns, hn => by
  have ih := val_sum vs ns hn
  have hno : ∀ n, x.1 ≠ n → vSize (x :: vs) n = vSize vs n := fun n h => by
   unfold vSize valOf
   rw [List.find?_cons_of_neg (p := fun z : Pr => decide (z.1 = n)) (by simpa using h)]
  have hye : vSize (x :: vs) x.1 = x.2.1.size := by
   unfold vSize valOf
   rw [List.find?_cons_of_pos (p := fun z : Pr => decide (z.1 = x.1)) (by simp)]
   rfl
  have key : ∀ ns : List ByteArray, ns.Nodup → (x.1 ∉ ns → (ns.map (vSize (x :: vs))).sum = (ns.map (vSize vs)).sum) ∧ (ns.map (vSize (x :: vs))).sum ≤ x.2.1.size + (ns.map (vSize vs)).sum := fun ns => by
   induction ns with
   | nil => exact fun _ => ⟨fun _ => rfl, Nat.zero_le _⟩
   | cons n ns ih =>
    intro hd
    obtain ⟨hd1, hd2⟩ := List.nodup_cons.1 hd
    obtain ⟨i1, i2⟩ := ih hd2
    rw [List.map_cons, List.map_cons, List.sum_cons, List.sum_cons]
    refine ⟨fun h => ?_, ?_⟩
    ·rw [hno n (fun e => h (by rw [e]; exact List.mem_cons_self ..)), i1 (fun hh => h (List.mem_cons_of_mem _ hh))]
    ·by_cases e : x.1 = n
     ·subst e
      rw [i1 hd1, hye]
      omega
     ·rw [hno n e]
      omega
  have := (key ns hn).2
  rw [List.map_cons, List.sum_cons]
  omega
theorem slashed_size (xs : List ByteArray) : (slashed xs).size = (xs.map fun x => x.size + 1).sum := by
 induction xs with
 | nil => rfl
 | cons x xs ih =>
  unfold slashed
  rw [ByteArray.size_append, ByteArray.size_append, ih, List.map_cons, List.sum_cons]
  show 1 + _ = _
  omega
theorem tell_size {vs : List Pr} : ∀ (l : List Pc) (xs : List ByteArray), tellGo (valOf vs) l = some xs → (xs.map fun x => x.size + 1).sum ≤ totP l + (((l.filter fun p => !decide (p.1 = 0)).map (·.2)).map (vSize vs)).sum
 | [], xs, h => by
  obtain rfl := Option.some.inj h
  exact Nat.zero_le _
 | p :: l, xs, h => by
  unfold tellGo at h
  cases hv : (if p.1 = 0 then some p.2 else valOf vs p.2) with
  | none => rw [hv] at h; simp at h
  | some x =>
   cases hl : tellGo (valOf vs) l with
   | none => rw [hv, hl] at h; simp at h
   | some ys =>
    rw [hv, hl] at h
    obtain rfl := Option.some.inj h
    have ih := tell_size l ys hl
    rw [List.map_cons, List.sum_cons, totP_cons]
    by_cases h0 : p.1 = 0
    ·rw [if_pos h0] at hv
     obtain rfl := Option.some.inj hv
     rw [List.filter_cons_of_neg (by simpa using h0)]
     omega
    ·rw [if_neg h0] at hv
     rw [List.filter_cons_of_pos (by simpa using h0), List.map_cons, List.map_cons, List.sum_cons]
     have : vSize vs p.2 = x.size := by unfold vSize; rw [hv]; rfl
     omega
theorem back_law {vs : List Pr} {p s : ByteArray} (hg : (splitP p).2.2 = true) (h : pathGo (valOf vs) ((segsP p).map pcOf) ⟨#[]⟩ = some s) :
  s.size ≤ p.size + (vs.map fun p => p.1.size + p.2.1.size + 4).sum ∧ ∃ told : List Prm, fitsP p s = some told ∧ told.length ≤ p.size ∧ ∀ q ∈ told, valOf vs q.1 = some q.2.1 := by
 have hsg := split_segs hg
 obtain ⟨hwf, hrl, htot, hne, _, _, _, _, _⟩ := split_wf hg
 have hst := static_path hg
 have hnd := names_differ hg
 rw [← hsg] at h
 obtain ⟨xs, hx1, hx2, hx3⟩ := path_tell (valOf vs) _ _ s h
 have hx2' : s = slashed xs := by
  rw [hx2]
  apply ba_ext
  simp [ByteArray.data_append]
 have hxne : xs ≠ [] := by
  intro e
  subst e
  cases hl : (splitP p).1 with
  | nil => exact hne hl
  | cons q l =>
   rw [hl] at hx1
   unfold tellGo at hx1
   split at hx1 <;> simp at hx1
 have hlen : ∀ (l : List Pc) (xs : List ByteArray), tellGo (valOf vs) l = some xs → xs.length = l.length := fun l => by
  induction l with
  | nil => intro xs h; obtain rfl := Option.some.inj h; rfl
  | cons q l ih =>
   intro xs h
   unfold tellGo at h
   cases hv : (if q.1 = 0 then some q.2 else valOf vs q.2) with
   | none => rw [hv] at h; simp at h
   | some x =>
    cases hl : tellGo (valOf vs) l with
    | none => rw [hv, hl] at h; simp at h
    | some ys =>
     rw [hv, hl] at h
     obtain rfl := Option.some.inj h
     rw [List.length_cons, List.length_cons, ih ys hl]
 have hzip : ∀ x ∈ xs, ∃ q ∈ (splitP p).1, (q, x) ∈ (splitP p).1.zip xs := fun x hx => by
  obtain ⟨j, hj, e⟩ := List.getElem_of_mem hx
  have hl := hlen _ _ hx1
  refine ⟨(splitP p).1[j]'(by omega), List.getElem_mem _, ?_⟩
  rw [← e]
  refine List.mem_iff_getElem.2 ⟨j, by rw [List.length_zip]; omega, ?_⟩
  rw [List.getElem_zip]
 have hmemz : ∀ q x, (q, x) ∈ (splitP p).1.zip xs → q ∈ (splitP p).1 := fun q x hq => (List.of_mem_zip hq).1
 have hpx : ∀ x ∈ xs, isPathB ((⟨#[47]⟩ : ByteArray) ++ x) = true := fun x hx => by
  obtain ⟨q, hq, hz⟩ := hzip x hx
  rcases hx3 _ hz with ⟨h0, e⟩ | ⟨_, hb⟩
  ·have e : x = q.2 := e
   rw [e]
   exact hst q hq h0
  ·unfold badV at hb
   rw [Bool.or_eq_false_iff] at hb
   simpa using hb.1
 have hok : ∀ z ∈ (splitP p).1.zip xs, okPiece z.1 z.2 := fun z hz => by
  obtain ⟨q, x⟩ := z
  have hq := hmemz q x hz
  obtain ⟨hk, hfree⟩ := hwf q hq
  unfold okPiece
  by_cases h2 : q.1 = 2
  ·rw [if_pos h2]; trivial
  ·rw [if_neg h2]
   rcases hx3 _ hz with ⟨h0, e⟩ | ⟨h0, hb⟩
   ·have e : x = q.2 := e
    refine ⟨fun j hj => ?_, fun h1 => by have h1 : q.1 = 1 := h1; have h0 : q.1 = 0 := h0; omega⟩
    have hf := hfree h0
    intro e47
    dsimp only at hj e47
    rw [e] at hj e47
    have hm : ((q.2.data.toList.getD j 0).toNat) ∈ bl q.2 := by
     unfold bl
     refine List.mem_map_of_mem ?_
     rw [List.getD_eq_getElem?_getD, List.getElem?_eq_getElem (by simpa using hj)]
     exact List.getElem_mem _
    refine hf _ hm ?_
    unfold bt at e47
    omega
   ·have h1 : q.1 = 1 := by
     have h0 : q.1 ≠ 0 := h0
     rcases hk with h | h | h
     ·exact absurd h h0
     ·exact h
     ·exact absurd h h2
    unfold badV at hb
    dsimp only at hb
    rw [Bool.or_eq_false_iff, h1] at hb
    have hb2 := hb.2
    rw [decide_eq_true (rfl : (1 : Int) = 1), Bool.true_and, Bool.or_eq_false_iff] at hb2
    exact ⟨hasSl_no hb2.2, fun _ => of_decide_eq_false hb2.1⟩
 obtain ⟨told, ht1, ht2⟩ := tell_fits (valOf vs) (splitP p).1 xs [] hne (fun q hq => (hwf q hq).1) (fun a q b e h2 => by
  have h3 := hrl a.length q (by rw [e, List.getElem?_append_right (Nat.le_refl _), Nat.sub_self]; rfl) h2
  rw [e, List.length_append, List.length_cons] at h3
  exact List.eq_nil_of_length_eq_zero (by omega)) hx1 hok
 have hpath : isPathB s = true := by rw [hx2']; exact slashed_path xs hxne hpx
 have hform : s = (⟨#[47]⟩ : ByteArray) ++ s.extract 1 s.size := by
  cases xs with
  | nil => exact absurd rfl hxne
  | cons x xs =>
   rw [hx2']
   unfold slashed
   apply ba_ext
   conv => rhs; rw [ByteArray.data_append, Array.toList_append, ext_all]
   simp [ByteArray.data_append]
 have hspos : 0 < s.size := by
  unfold isPathB at hpath
  simp at hpath
  exact hpath.1
 have hfit : fitsP p s = some told := by
  rw [← ref_fits]
  unfold refFits
  rw [if_pos ⟨hg, hpath⟩, ← hsg, segs_of hspos]
  have := ht2 (s.extract 1 s.size) (by rw [← hx2']; exact hform)
  simpa using this
 refine ⟨?_, told, hfit, ?_, fun q hq => ht1 q hq⟩
 ·rw [hx2', slashed_size]
  have h1 := tell_size _ _ hx1
  have hnd2 : (((splitP p).1.filter fun q => !decide (q.1 = 0)).map (·.2)).Nodup := by
   unfold List.Nodup
   rw [List.pairwise_map, List.pairwise_filter]
   exact hnd.imp fun h a b => h (by simpa using a) (by simpa using b)
  have h2 := val_sum vs _ hnd2
  omega
 ·have h1 := refFits_len p s
  rw [ref_fits, hfit] at h1
  exact h1
end Go.Proofs.YtiohmnhbmmhnhaaGreatDoor
namespace Go.Proofs.YtiohmnhbmmhnhaaGreatDoor
open Go.RowKit Go.Shelf Go.Lib
theorem tmod_pos (turn : Int) {L : Nat} (hL : 0 < L) : ∃ N : Nat, N < L ∧ Int.tmod (Int.tmod turn L + L) L = (N : Int) ∧ 0 ≤ Int.tmod turn L + L ∧ Int.tmod turn L + L < 2 * L := by
 have h1 : -(L : Int) < Int.tmod turn L := by
  rcases Int.lt_or_le turn 0 with h | h
  ·have := Int.tmod_lt_of_pos (-turn) (show (0 : Int) < L by omega)
   rw [Int.neg_tmod] at this
   omega
  ·have := Int.tmod_nonneg (L : Int) h
   omega
 have h2 : Int.tmod turn L < L := Int.tmod_lt_of_pos turn (by omega)
 have h3 : 0 ≤ Int.tmod turn L + L := by omega
 have h4 := Int.tmod_nonneg (L : Int) h3
 have h5 := Int.tmod_lt_of_pos (Int.tmod turn L + L) (show (0 : Int) < L by omega)
 exact ⟨(Int.tmod (Int.tmod turn L + L) L).toNat, by omega, by omega, h3, by omega⟩
theorem valOf_first {vs : List Pr} {s v : ByteArray} (h : valOf vs s = some v) : ∃ (k : Nat) (x : Pr), vs[k]? = some x ∧ x.1 = s ∧ x.2.1 = v ∧ ∀ (j : Nat) (y : Pr), j < k → vs[j]? = some y → y.1 ≠ s := by
 induction vs with
 | nil => cases h
 | cons y vs ih =>
  unfold valOf at h
  by_cases e : y.1 = s
  ·rw [List.find?_cons_of_pos (p := fun z : Pr => decide (z.1 = s)) (decide_eq_true e)] at h
   exact ⟨0, y, rfl, e, Option.some.inj h, fun j z hj => absurd hj (Nat.not_lt_zero _)⟩
  ·rw [List.find?_cons_of_neg (p := fun z : Pr => decide (z.1 = s)) (by simpa using e)] at h
   obtain ⟨k, x, h1, h2, h3, h4⟩ := ih h
   refine ⟨k + 1, x, by simpa using h1, h2, h3, fun j z hj hz => ?_⟩
   cases j with
   | zero => simp at hz; subst hz; exact e
   | succ j => exact h4 j z (by omega) (by simpa using hz)
theorem back_kind {w : World} {t : Nat} {sl : Bool} {l : List Rt} (hT : TableAt w t sl l) {r : Rt} (hr : r ∈ l) {s : ByteArray} (hf : fitT s r.2 = true) : (matchP l sl mOpt s).kind = 1 ∨ (matchP l sl mOpt s).kind = 3 := by
 unfold matchP
 cases hp : patR l s with
 | none =>
  have := fit_no hT hp (List.mem_map.2 ⟨r, hr, rfl⟩)
  rw [hf] at this
  cases this
 | some p =>
  rw [kind_some]
  split
  ·exact .inl rfl
  ·rw [if_pos rfl]; exact .inr rfl
set_option maxRecDepth 100000 in
set_option maxHeartbeats 8000000 in
theorem RouteBack_walk (A : Option Addr) (c : Nat) (la : List Ra) (i : Int) (VA : Option Addr) (vc : Nat) (vs : List Pr) (w : World) (hr : Row w A (flatA la)) (hm : AOk w la) (_hi : -9223372036854775808 ≤ i ∧ i ≤ 9223372036854775807) (hv : Row w VA (flat3 vs)) (hk : bulkRt (plA la) + 0 + bulkV vs ≤ 1048576) (hg : GlobR w) :
  Calls Tryz.prog 9 #[.slice A la.length c, .int .i64 i, .slice VA vs.length vc] w fun e w' => e = .returned (.bool true) ∧ Below w.heap.size w w' := by
 obtain ⟨j0, hj0, hy0, hy1, hy2⟩ := info_parts info_param
 have hvl0 := bulkV_len vs
 have hvl : vs.length ≤ 1048576 := by omega
 have hlen4 := bulkRt_len (plA la)
 rw [plA_length] at hlen4
 have hlen5 : la.length ≤ 262144 := by omega
 have HVB := Lib.hid (show (vs.map fun p => p.1.size + p.2.1.size + 4).sum ≤ 1048576 from by
  have : bulkV vs ≤ 1048576 := by omega
  exact this)
 have HVZ := Lib.hid (show ∀ x ∈ vs, x.2.1.size ≤ 1048576 from fun x hx => by have := bulkV_mem hx; omega)
 have HR := Lib.hid (fun (W : World) (h : Below w.heap.size w W) => hr.below h)
 have HM := Lib.hid (fun (W : World) (h : Below w.heap.size w W) => hm.below h)
 have HV := Lib.hid (fun (W : World) (h : Below w.heap.size w W) => hv.below h)
 have HK := Lib.hid (show bulkRt (plA la) ≤ 1048576 by omega)
 have HG := Lib.hid (fun (W : World) (h : Below w.heap.size w W) => hg.beyond h)
 have HAW := Lib.hid (awake_any w hg)
 clear hr hm hv hk hg hvl0 _hi
 go_enter Tryz.func9, Tryz.ntmps9
 go_wp2_with fail
 refine HAW.out.mono ?_
 rintro e w1 ⟨rfl, hb1⟩
 have HB1 := Lib.hid hb1
 have HMA := Lib.hid (made_any A c la false w1 (HR.out w1 hb1) (HM.out w1 hb1) HK.out (HG.out w1 hb1))
 clear hb1 HAW
 go_wp2_with fail
 refine HMA.out.mono ?_
 rintro e w2 (⟨_, rfl, hb2⟩ | ⟨_, t, rfl, _, hT, hb2⟩)
 ·have HB2 := Lib.hid (HB1.out.trans (hb2.mono HB1.out.size))
  clear hb2 HMA
  go_wp2
  go_ret
  exact ⟨rfl, HB2.out⟩
 ·have HB2 := Lib.hid (HB1.out.trans (hb2.mono HB1.out.size))
  have HT := Lib.hid hT
  have HBW := Lib.hid (fun (W : World) (h : Below w2.heap.size w2 W) => HB2.out.trans (h.mono HB2.out.size))
  have HGL := Lib.hid (hT.goodL).1
  clear hb2 HMA hT
  by_cases h0 : la.length = 0
  ·have hz : ((la.length : Int) == 0) = true := beq_iff_eq.2 (by omega)
   clear h0
   go_wp2
   go_ret
   exact ⟨rfl, HB2.out⟩
  ·have hz : ((la.length : Int) == 0) = false := beq_eq_false_iff_ne.2 (by omega)
   obtain ⟨N, hN, hNe, hN1, hN2⟩ := tmod_pos i (show 0 < la.length by omega)
   have hzn : ¬ (la.length : Int) = 0 := by omega
   have hbe := (Below.refl w2.heap.size w2).alloc (Nat.le_refl _) (.cells #[] 68)
   have HVE := Lib.hid ((HV.out w2 HB2.out).below hbe)
   have HBE := Lib.hid hbe
   have HWE : Hid ((w2.alloc (.cells #[] 68)).ownsRow w2.heap.size 68 3 (.slice (some ⟨w2.heap.size, 0, none⟩) 0 0) 0 []) := Lib.hid (World.ownsRow_lit w2 #[] 0 (Nat.le_refl _) (by unfold maxLen; omega) rfl)
   clear hbe h0
   go_wp2_with (at_builtin; refine wpList_append_any _ rfl (.tmp 53) (.tmp 54) 45 rfl w2.heap.size 68 j0 (.agg #[.string ⟨#[]⟩, .string ⟨#[]⟩, .bool false]) 3 40 Tryz.underlying45 hj0 hy0 hy1 hy2 rfl (by decide) (.slice (some ⟨w2.heap.size, 0, none⟩) 0 0) 0 [] rfl HWE.out _ VA vs.length vc (flat3 vs) rfl (reads_of_row HVE.out (flat3_length vs) (by decide)) (flat3_oneCell _) (by unfold maxLen; omega) (by omega) (by simp) ?_; intro v6 w6 hown6 hg6 halt6)
   rw [Nat.zero_add] at hown6
   obtain ⟨PA, pc, rfl⟩ := own_slice hown6
   have HB6 := Lib.hid (HBE.out.grown hg6 (by simp) (fun k hk => by simp [Value.ownBlock] at hk; omega))
   have HP6 := Lib.hid (own_row (show w6.ownsRow w2.heap.size 68 3 (.slice PA vs.length pc) vs.length (flat3 vs) from hown6))
   have HC := Lib.hid (rtPath_any t false (plA la) PA pc vs (N : Int) w6 (HT.out.below HB6.out) HP6.out hvl HVZ.out (HG.out w6 (HBW.out w6 HB6.out)))
   obtain ⟨x, hx⟩ := some_of_lt hN
   have hpx := plA_get hx
   have HPX := Lib.hid hpx
   have HX := Lib.hid hx
   have hPI := pathP_in (vs := vs) hpx
   have hgood := chk_split (wrong_chk (HGL.out.one _ (List.mem_of_getElem? hpx)))
   have hps := (slim_mem HK.out (List.mem_of_getElem? hpx)).pat
   obtain ⟨_, _, _, _, hpz, _, _, _, _⟩ := split_wf hgood
   rw [hPI] at HC
   have HBL := Lib.hid (fun s => @back_law vs x.1.2.2 s hgood)
   clear hown6 hg6 halt6 HWE HVE hPI hgood hx hpx
   cases hres : pathGo (valOf vs) ((segsP x.1.2.2).map pcOf) ⟨#[]⟩ with
   | none =>
    rw [hres] at HC
    clear hres
    dsimp only [pathOut] at HC
    go_wp2_with fail
    refine HC.out.mono ?_
    rintro e w7 ⟨rfl, hb7⟩
    have HB7 := Lib.hid (HBW.out _ (HB6.out.trans (hb7.mono HB6.out.size)))
    clear hb7
    go_wp2
    go_ret
    exact ⟨rfl, HB7.out⟩
   | some s =>
    rw [hres] at HC
    obtain ⟨hsz, told, hfit, htl, hval⟩ := HBL.out s hres
    have hss : s.size ≤ 1049600 := by have := HVB.out; omega
    have HVAL := Lib.hid hval
    have htl2 : told.length ≤ 1024 := by omega
    have HFT := Lib.hid (fun (W : World) (h : Below w6.heap.size w6 W) => (show Calls Tryz.prog 19 #[.string x.1.2.2, .string s] W (GivesFit W (some told)) from by
     have := Fits_any x.1.2.2 s W (by omega) (by omega) (HG.out W (HBW.out W (HB6.out.trans (h.mono HB6.out.size)))).g
     rw [hfit] at this
     exact this))
    have HMT := Lib.hid (fun (W : World) (h : Below w2.heap.size w2 W) => Match_any t false (plA la) mOpt s W (HT.out.below h) (by omega) (HG.out W (HBW.out W h)))
    have HKD := Lib.hid (back_kind (HT.out) (List.mem_of_getElem? HPX.out) (s := s) (by show (fitVal (fitsP x.1.2.2 s)).2 = true; rw [hfit]; rfl))
    clear hres HBL hfit hval hsz htl
    dsimp only [pathOut] at HC
    go_wp2_with fail
    refine HC.out.mono ?_
    rintro e w7 ⟨rfl, hb7⟩
    have HX7 := Lib.hid hb7
    have HB7 := Lib.hid (HB6.out.trans (hb7.mono HB6.out.size))
    obtain ⟨b, off, rfl, hbl, _, f1, _⟩ := (HR.out w7 (HBW.out w7 HB7.out)).ra HX.out
    have hNI : (N : Int) < (la.length : Int) := by omega
    clear hb7
    go_wp2_with fail
    refine (HFT.out w7 HX7.out).mono ?_
    rintro e w8 ⟨FA, fc, rfl, hof, hb8⟩
    dsimp only [fitVal] at hof ⊢
    have HFA := Lib.hid (fun (W : World) (h : Below w8.heap.size w8 W) => (own_row hof).below h)
    have HB8 := Lib.hid (HB7.out.trans (hb8.mono HB7.out.size))
    have HBx := Lib.hid (fun (W : World) (h : Below w8.heap.size w8 W) => HB8.out.trans (h.mono HB8.out.size))
    have HB8R := Lib.hid (Below.refl w8.heap.size w8)
    clear hof hb8 f1 hbl
    go_wp2
    go_loopw [81] (fun i wr => ∃ k : Nat, k ≤ told.length ∧ i = .int .i64 k ∧ Hid (Below w8.heap.size w8 wr)) (fun i _ => told.length - (RowKit.intOf i).toNat)
    case atStart => exact ⟨0, by omega, rfl, HB8R⟩
    case round =>
     obtain ⟨k, hkl, rfl, HB⟩ := hrel
     by_cases hlt : k < told.length
     ·obtain ⟨⟨pn, pv, pz⟩, htk⟩ := some_of_lt hlt
      obtain ⟨b2, off2, rfl, hb2, f0, f1, f2⟩ := (HFA.out wr HB.out).trip htk
      have hki : (k : Int) < (told.length : Int) := by omega
      obtain ⟨m, y, hm1, hm2, hm3, hm4⟩ := valOf_first (HVAL.out _ (List.mem_of_getElem? htk))
      have hml := lt_of_some hm1
      have HM1 := Lib.hid hm1
      have HM2 := Lib.hid hm2
      have HM3 := Lib.hid hm3
      have HM4 := Lib.hid hm4
      dsimp only at HM2 HM3 HM4
      have hb5 : Below wr.heap.size wr (wr.alloc (.cells #[.string pn, .string pv, .bool pz] 68)) := (Below.refl _ _).alloc (Nat.le_refl _) _
      have HN5 : Hid (Blk (wr.alloc (.cells #[.string pn, .string pv, .bool pz] 68)) wr.heap.size 68 #[.string pn, .string pv, .bool pz]) := Lib.hid (Blk.new wr _ _)
      have HB5 := Lib.hid (HB.out.trans (hb5.mono HB.out.size))
      clear hb5 htk hm1 hm2 hm3 hm4
      obtain ⟨xo, rfl⟩ : ∃ xo : World, xo = wr := ⟨_, rfl⟩
      go_wp2
      obtain ⟨nb, hnb⟩ : ∃ nb : Nat, nb = xo.heap.size := ⟨_, rfl⟩
      rw [← hnb] at HN5
      rw [← hnb]
      generalize (xo.alloc (.cells #[.string pn, .string pv, .bool pz] 68)) = w5 at *
      have HB5R := Lib.hid (Below.refl w5.heap.size w5)
      clear hnb f0 f1 f2 hb2
      go_loopw [16, 87] (fun fv i wr => ∃ j : Nat, j ≤ vs.length ∧ i = .int .i64 j ∧ fv = .bool (decide (m < j)) ∧ Hid (Below w5.heap.size w5 wr)) (fun _ i _ => vs.length - (RowKit.intOf i).toNat)
      case atStart => exact ⟨0, by omega, rfl, by simp, HB5R⟩
      case round =>
       obtain ⟨j, hjl, rfl, rfl, HBJ⟩ := hrel
       have hnbl : nb < wr.heap.size := Nat.lt_of_lt_of_le HN5.out.lt HBJ.out.size
       have g0 : wr.cell? ⟨nb, 0, none⟩ = some (.string pn) := (HN5.out.below HBJ.out HN5.out.lt).cell 0
       have g1 : wr.cell? ⟨nb, 1, none⟩ = some (.string pv) := (HN5.out.below HBJ.out HN5.out.lt).cell 1
       by_cases hjt : j < vs.length
       ·obtain ⟨⟨vn, vv, vz⟩, hvj⟩ := some_of_lt hjt
        obtain ⟨b3, off3, rfl, hb3, e0, e1, e2⟩ := (HV.out wr (HBW.out wr (HBx.out wr (HB5.out.trans (HBJ.out.mono HB5.out.size))))).trip hvj
        have hji : (j : Int) < (vs.length : Int) := by omega
        have HBN := Lib.hid (HBJ.out.alloc HBJ.out.size (.cells #[.string vn, .string vv, .bool vz] 68))
        rcases Nat.lt_trichotomy j m with hjm | hjm | hjm
        ·have hq : (vn.toList == pn.toList) = false := by rw [eq_str]; exact decide_eq_false (HM4.out j _ hjm hvj)
         have hd : decide (m < j) = false := decide_eq_false (by omega)
         have hd1 : decide (m < j + 1) = false := decide_eq_false (by omega)
         rw [hd]
         clear hvj hjm hd
         go_wp2
         go_roundw
         case rel => exact ⟨j + 1, by omega, by go_num, by rw [hd1], HBN⟩
         case measure => simp [RowKit.intOf]; omega
        ·have hyy : ((vn, vv, vz) : Pr) = y := by
          have := HM1.out
          rw [← hjm, hvj] at this
          exact Option.some.inj this
         have hn1 : vn = pn := by have := HM2.out; rw [← hyy] at this; exact this
         have hn2 : vv = pv := by have := HM3.out; rw [← hyy] at this; exact this
         clear hyy hvj
         subst hn1
         subst hn2
         have hq : (vn.toList == vn.toList) = true := by simp
         have hq2 : (vv.toList != vv.toList) = false := by simp
         have hd : decide (m < j) = false := decide_eq_false (by omega)
         have hd1 : decide (m < j + 1) = true := decide_eq_true (by omega)
         rw [hd]
         clear hjm hd
         go_wp2
         go_roundw
         case rel => exact ⟨j + 1, by omega, by go_num, by rw [hd1], HBN⟩
         case measure => simp [RowKit.intOf]; omega
        ·have hd : decide (m < j) = true := decide_eq_true (by omega)
         have hd1 : decide (m < j + 1) = true := decide_eq_true (by omega)
         rw [hd]
         clear hvj hjm hd
         cases hq : (vn.toList == pn.toList)
         ·go_wp2
          go_roundw
          case rel => exact ⟨j + 1, by omega, by go_num, by rw [hd1], HBN⟩
          case measure => simp [RowKit.intOf]; omega
         ·go_wp2
          go_roundw
          case rel => exact ⟨j + 1, by omega, by go_num, by rw [hd1], HBN⟩
          case measure => simp [RowKit.intOf]; omega
       ·obtain rfl : j = vs.length := by omega
        have hd : decide (m < vs.length) = true := decide_eq_true hml
        have HBE := Lib.hid (HB5.out.trans (HBJ.out.mono HB5.out.size))
        rw [hd]
        clear hd hml g0 g1
        go_wp2
        go_roundw
        case rel => exact ⟨k + 1, by omega, by go_num, HBE⟩
        case measure => simp [RowKit.intOf]; omega
     ·obtain rfl : k = told.length := by omega
      have hkd := HKD.out
      have HMM := Lib.hid (HMT.out wr (HBx.out wr HB.out))
      generalize matchP (plA la) false mOpt s = ma at *
      obtain ⟨mk, mr, mp, mpar, mal, md⟩ := ma
      dsimp only at hkd
      go_wp2_with fail
      refine HMM.out.mono ?_
      rintro e w9 ⟨PC, pe, AC, ae, rfl, _, _, hb9⟩
      have HB9 := Lib.hid (HBW.out _ ((HBx.out wr HB.out).trans (hb9.mono (HBx.out wr HB.out).size)))
      have HB10 := Lib.hid (HB9.out.alloc HB9.out.size (.cells #[.int .i64 mk, .int .i64 mr, .string mp, .slice PC mpar.length pe, .slice AC mal.length ae, .string md] 47))
      clear hb9
      dsimp only
      rcases hkd with rfl | rfl
      ·go_wp2
       go_ret
       exact ⟨rfl, HB10.out⟩
      ·go_wp2
       go_ret
       exact ⟨rfl, HB10.out⟩
end Go.Proofs.YtiohmnhbmmhnhaaGreatDoor
