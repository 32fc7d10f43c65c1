/-
 RtPw, without what this claim does not reach.
-/
import Derived.Test.YtiohmnhbmmhnhaaGreatDoorZRxFr
import Derived.Test.YtiohmnhbmmhnhaaGreatDoorZRtD
import Derived.Test.YtiohmnhbmmhnhaaGreatDoorZBuild
import Derived.Test.YtiohmnhbmmhnhaaGreatDoorZRxRp
import Derived.Test.YtiohmnhbmmhnhaaGreatDoorZRtMd
namespace Go.Proofs.YtiohmnhbmmhnhaaGreatDoor
theorem bt_left {x e : ByteArray} {j : Nat} (h : j < x.size) : bt (x ++ e) j = bt x j := by
 unfold bt
 rw [ByteArray.data_append, Array.toList_append, List.getD_eq_getElem?_getD, List.getD_eq_getElem?_getD, List.getElem?_append_left (by simpa using h)]
theorem bt_right {x e : ByteArray} (j : Nat) : bt (x ++ e) (x.size + j) = bt e j := by
 unfold bt
 rw [ByteArray.data_append, Array.toList_append, List.getD_eq_getElem?_getD, List.getD_eq_getElem?_getD, List.getElem?_append_right (by simp)]
 have e1 : x.size + j - x.data.toList.length = j := by
  have : x.data.toList.length = x.size := by simp
  omega
 rw [e1]
theorem split_front {x t : ByteArray} (hx : ∀ j, j < x.size → bt x j ≠ 47) : splitC (x ++ ((⟨#[47]⟩ : ByteArray) ++ t)) 47 = x :: splitC t 47 := by
 have hs : (x ++ ((⟨#[47]⟩ : ByteArray) ++ t)).size = x.size + (1 + t.size) := by rw [ByteArray.size_append, ByteArray.size_append]; rfl
 have hk : bt (x ++ ((⟨#[47]⟩ : ByteArray) ++ t)) x.size = 47 := by
  have h := @bt_right x ((⟨#[47]⟩ : ByteArray) ++ t) 0
  rw [Nat.add_zero] at h
  rw [h, bt_left (by decide)]
  rfl
 have hp : place (x ++ ((⟨#[47]⟩ : ByteArray) ++ t)) 47 = x.size := by
  rcases place_spec (x ++ ((⟨#[47]⟩ : ByteArray) ++ t)) 47 with ⟨_, h⟩ | ⟨k, e, hkz, hb, hn⟩
  ·exact absurd hk (h x.size (by omega))
  ·rw [e]
   rcases Nat.lt_trichotomy k x.size with h | h | h
   ·rw [bt_left h] at hb; exact absurd hb (hx k h)
   ·exact h
   ·exact absurd hk (hn x.size h)
 rw [splitC_hit (by omega) hp]
 have e1 : (x ++ ((⟨#[47]⟩ : ByteArray) ++ t)).extract 0 x.size = x := by
  apply ba_ext
  rw [ext_front, ByteArray.data_append, Array.toList_append]
  have : x.size = x.data.toList.length := by simp
  rw [this, List.take_left']
  rfl
 have e2 : (x ++ ((⟨#[47]⟩ : ByteArray) ++ t)).extract (x.size + 1) (x ++ ((⟨#[47]⟩ : ByteArray) ++ t)).size = t := by
  apply ba_ext
  rw [ext_all, ByteArray.data_append, Array.toList_append, ByteArray.data_append, Array.toList_append]
  have : x.size = x.data.toList.length := by simp
  rw [this, ← List.drop_drop, List.drop_left' rfl]
  rfl
 rw [e1, e2]
def tellGo (val : ByteArray → Option ByteArray) : List Pc → Option (List ByteArray)
 | [] => some []
 | p :: l => match (if p.1 = 0 then some p.2 else val p.2), tellGo val l with
  | some x, some xs => some (x :: xs)
  | _, _ => none
def slashed : List ByteArray → ByteArray
 | [] => ⟨#[]⟩
 | x :: l => (⟨#[47]⟩ : ByteArray) ++ (x ++ slashed l)
def okPiece (p : Pc) (x : ByteArray) : Prop := if p.1 = 2 then True else (∀ j, j < x.size → bt x j ≠ 47) ∧ (p.1 = 1 → x.size ≠ 0)
theorem tell_fits (val : ByteArray → Option ByteArray) : ∀ (l : List Pc) (xs : List ByteArray) (out : List Prm), l ≠ [] → (∀ p ∈ l, p.1 = 0 ∨ p.1 = 1 ∨ p.1 = 2) → (∀ a p b, l = a ++ p :: b → p.1 = 2 → b = []) →
  tellGo val l = some xs → (∀ q ∈ l.zip xs, okPiece q.1 q.2) →
  ∃ told : List Prm, (∀ q ∈ told, val q.1 = some q.2.1) ∧ ∀ t, slashed xs = (⟨#[47]⟩ : ByteArray) ++ t → refGo l (splitC t 47) out = some (out ++ told)
 | [], _, _, h, _, _, _, _ => absurd rfl h
 | p :: l, xs, out, _, hk, hlast, htell, hok => by
  unfold tellGo at htell
  cases hv : (if p.1 = 0 then some p.2 else val p.2) with
  | none => rw [hv] at htell; simp at htell
  | some x =>
   cases hl : tellGo val l with
   | none => rw [hv, hl] at htell; simp at htell
   | some ys =>
    rw [hv, hl] at htell
    obtain rfl := Option.some.inj htell
    have hpx : okPiece p x := hok (p, x) (by simp)
    have hval : p.1 ≠ 0 → val p.2 = some x := fun h => by rw [if_neg h] at hv; exact hv
    have hlit : p.1 = 0 → x = p.2 := fun h => by rw [if_pos h] at hv; exact (Option.some.inj hv).symm
    by_cases hp2 : p.1 = 2
    ·have hnil : l = [] := hlast [] p l rfl hp2
     subst hnil
     obtain rfl : ys = [] := by simpa [tellGo] using hl.symm
     refine ⟨[(p.2, x, true)], fun q hq => ?_, fun t ht => ?_⟩
     ·obtain rfl := List.mem_singleton.1 hq
      exact hval (by omega)
     ·have hx : x ++ slashed [] = t := by
       have := congrArg (fun z : ByteArray => z.data.toList.drop 1) ht
       apply ba_ext
       simpa [slashed, ByteArray.data_append] using this
      have hxt : x = t := by
       rw [← hx]; apply ba_ext; simp [slashed, ByteArray.data_append]
      subst hxt
      obtain ⟨y, r, hy⟩ : ∃ y r, splitC x 47 = y :: r := by
       cases hc : splitC x 47 with
       | nil => exact absurd hc (splitC_ne _ _)
       | cons y r => exact ⟨y, r, rfl⟩
      rw [hy]
      unfold refGo
      rw [if_neg (by omega), if_neg (by omega)]
      have hj := join_split x.size x ⟨#[]⟩ y r (Nat.le_refl _) hy
      have e0 : ∀ z : ByteArray, (⟨#[]⟩ : ByteArray) ++ z = z := fun z => by apply ba_ext; simp [ByteArray.data_append]
      rw [e0, e0] at hj
      rw [hj]
    ·unfold okPiece at hpx
     rw [if_neg hp2] at hpx
     obtain ⟨hfree, hne⟩ := hpx
     have hk1 : p.1 = 0 ∨ p.1 = 1 := by rcases hk p (List.mem_cons_self ..) with h | h | h <;> omega
     have step : ∀ (r : List ByteArray), refGo (p :: l) (x :: r) out = refGo l r (if p.1 = 0 then out else out ++ [(p.2, x, true)]) := fun r => by
      conv => lhs; unfold refGo
      rcases hk1 with h | h
      ·rw [if_pos h, if_pos (hlit h), if_pos h]
      ·rw [if_neg (by omega), if_pos h, if_neg (hne h), if_neg (by omega)]
     cases l with
     | nil =>
      obtain rfl : ys = [] := by simpa [tellGo] using hl.symm
      refine ⟨if p.1 = 0 then [] else [(p.2, x, true)], fun q hq => ?_, fun t ht => ?_⟩
      ·by_cases h0 : p.1 = 0
       ·rw [if_pos h0] at hq; simp at hq
       ·rw [if_neg h0] at hq
        obtain rfl := List.mem_singleton.1 hq
        exact hval h0
      ·have hx : x ++ slashed [] = t := by
        have := congrArg (fun z : ByteArray => z.data.toList.drop 1) ht
        apply ba_ext
        simpa [slashed, ByteArray.data_append] using this
       have hxt : x = t := by rw [← hx]; apply ba_ext; simp [slashed, ByteArray.data_append]
       subst hxt
       have hsp : splitC x 47 = [x] := by
        apply splitC_miss
        rcases place_spec x 47 with ⟨h, _⟩ | ⟨k, _, hkz, hb, _⟩
        ·exact h
        ·exact absurd hb (hfree k hkz)
       rw [hsp, step]
       show some (if p.1 = 0 then out else out ++ [(p.2, x, true)]) = _
       split <;> simp
     | cons p2 l2 =>
      obtain ⟨told, h1, h2⟩ := tell_fits val (p2 :: l2) ys (if p.1 = 0 then out else out ++ [(p.2, x, true)]) (by simp) (fun q hq => hk q (List.mem_cons_of_mem _ hq)) (fun a q b e h => hlast (p :: a) q b (by rw [e]; rfl) h) hl (fun q hq => hok q (by rw [List.zip_cons_cons]; exact List.mem_cons_of_mem _ hq))
      refine ⟨(if p.1 = 0 then [] else [(p.2, x, true)]) ++ told, fun q hq => ?_, fun t ht => ?_⟩
      ·rcases List.mem_append.1 hq with hq | hq
       ·by_cases h0 : p.1 = 0
        ·rw [if_pos h0] at hq; simp at hq
        ·rw [if_neg h0] at hq
         obtain rfl := List.mem_singleton.1 hq
         exact hval h0
       ·exact h1 q hq
      ·obtain ⟨y, r, rfl⟩ : ∃ y r, ys = y :: r := by
        cases ys with
        | nil =>
         unfold tellGo at hl
         split at hl <;> simp at hl
        | cons y r => exact ⟨y, r, rfl⟩
       have ht2 : t = x ++ ((⟨#[47]⟩ : ByteArray) ++ (y ++ slashed r)) := by
        have := congrArg (fun z : ByteArray => z.data.toList.drop 1) ht
        apply ba_ext
        simpa [slashed, ByteArray.data_append] using this.symm
       rw [ht2, split_front hfree, step, h2 (y ++ slashed r) rfl]
       congr 1
       split <;> simp
theorem tri_right {a b : ByteArray} (i : Nat) : tri (a ++ b) (a.size + i) = tri b i := by
 have hs : (a ++ b).size = a.size + b.size := ByteArray.size_append
 have h : tri (a ++ b) (a.size + i) = true ↔ tri b i = true := by
  rw [tri_iff, tri_iff, hs, Nat.add_assoc, Nat.add_assoc, bt_right, bt_right, bt_right]
  constructor
  ·rintro ⟨h1, h2⟩; exact ⟨by omega, h2⟩
  ·rintro ⟨h1, h2⟩; exact ⟨by omega, h2⟩
 cases h1 : tri b i
 ·cases h2 : tri (a ++ b) (a.size + i)
  ·rfl
  ·rw [h.1 h2] at h1; cases h1
 ·exact h.2 h1
theorem tri_left {a b : ByteArray} {i : Nat} (h : tri a i = true) : tri (a ++ b) i = true := by
 have hs : (a ++ b).size = a.size + b.size := ByteArray.size_append
 have h1 := tri_iff.1 h
 rw [tri_iff, bt_left (by omega), bt_left (by omega), bt_left (by omega)]
 exact ⟨by omega, h1.2⟩
theorem stop_right (P : Int → Bool) (a b : ByteArray) : ∀ (n i : Nat), b.size - i ≤ n → stopF P (a ++ b) (a.size + i) = a.size + stopF P b i
 | n, i, hn => by
  have hs : (a ++ b).size = a.size + b.size := ByteArray.size_append
  by_cases hi : i < b.size
  ·match n, hn with
   | 0, hn => omega
   | n + 1, hn =>
    rw [stopF_step (by omega), stopF_step hi, tri_right, bt_right, Nat.add_assoc, Nat.add_assoc, stop_right P a b n (i + 3) (by omega), stop_right P a b n (i + 1) (by omega)]
    split
    ·rfl
    ·split <;> rfl
  ·rw [stopF_end (by omega), stopF_end (by omega)]
theorem stop_left {P : Int → Bool} (hP : P 37 = false) (a b : ByteArray) : ∀ (n i : Nat), a.size - i ≤ n → i ≤ a.size → stopF P a i = a.size → stopF P (a ++ b) i = stopF P (a ++ b) a.size
 | n, i, hn, hi, h => by
  have hs : (a ++ b).size = a.size + b.size := ByteArray.size_append
  by_cases hlt : i < a.size
  ·match n, hn with
   | 0, hn => omega
   | n + 1, hn =>
    rw [stopF_step hlt] at h
    by_cases ht : tri a i = true
    ·rw [if_pos ht] at h
     have h3 := (tri_iff.1 ht).1
     rw [stopF_tri (tri_left ht)]
     exact stop_left hP a b n (i + 3) (by omega) (by omega) h
    ·rw [if_neg ht] at h
     by_cases hp : P (bt a i) = true
     ·rw [if_pos hp] at h
      have hne : tri (a ++ b) i = false := by
       cases h2 : tri (a ++ b) i
       ·rfl
       ·have := (tri_iff.1 h2).2.1
        rw [bt_left hlt] at this
        rw [this, hP] at hp
        cases hp
      rw [stopF_on (by omega) hne (by rw [bt_left hlt]; exact hp)]
      exact stop_left hP a b n (i + 1) (by omega) (by omega) h
     ·rw [if_neg hp] at h; omega
  ·have : i = a.size := by omega
   rw [this]
theorem path_app {a b : ByteArray} (ha : isPathB a = true) (hb : isPathB b = true) : isPathB (a ++ b) = true := by
 unfold isPathB at *
 rw [Bool.and_eq_true, Bool.and_eq_true] at *
 obtain ⟨a1, a2, a3⟩ := ha
 obtain ⟨_, _, b3⟩ := hb
 have a1 := of_decide_eq_true a1
 have a3 := of_decide_eq_true a3
 have b3 := of_decide_eq_true b3
 have hs : (a ++ b).size = a.size + b.size := ByteArray.size_append
 refine ⟨decide_eq_true (by omega), by rw [bt_left a1]; exact a2, decide_eq_true ?_⟩
 unfold pathStop at *
 rw [stop_left (by decide) a b a.size 0 (by omega) (by omega) a3]
 have h := stop_right pathSign a b b.size 0 (by omega)
 rw [Nat.add_zero] at h
 rw [h, b3, hs]
theorem slashed_two (x y : ByteArray) (l : List ByteArray) : slashed (x :: y :: l) = ((⟨#[47]⟩ : ByteArray) ++ x) ++ slashed (y :: l) := by
 apply ba_ext
 simp [slashed, ByteArray.data_append, List.append_assoc]
theorem slashed_one (x : ByteArray) : slashed [x] = (⟨#[47]⟩ : ByteArray) ++ x := by
 apply ba_ext
 simp [slashed, ByteArray.data_append]
theorem slashed_path : ∀ (xs : List ByteArray), xs ≠ [] → (∀ x ∈ xs, isPathB ((⟨#[47]⟩ : ByteArray) ++ x) = true) → isPathB (slashed xs) = true
 | [], h, _ => absurd rfl h
 | [x], _, h => by rw [slashed_one]; exact h x (by simp)
 | x :: y :: l, _, h => by
  rw [slashed_two]
  exact path_app (h x (by simp)) (slashed_path (y :: l) (by simp) fun z hz => h z (List.mem_cons_of_mem _ hz))
def hasSl (s : ByteArray) : Bool := (List.range s.size).any fun j => decide (bt s j = 47)
theorem hasSl_no {s : ByteArray} (h : hasSl s = false) : ∀ j, j < s.size → bt s j ≠ 47 := fun j hj e => by
 unfold hasSl at h
 rw [List.any_eq_false] at h
 exact h j (List.mem_range.2 hj) (decide_eq_true e)
def badV (p : Pc) (v : ByteArray) : Bool := !isPathB ((⟨#[47]⟩ : ByteArray) ++ v) || (decide (p.1 = 1) && (decide (v.size = 0) || hasSl v))
def pathGo (val : ByteArray → Option ByteArray) : List Pc → ByteArray → Option ByteArray
 | [], out => some out
 | p :: l, out => if p.1 = 0 then pathGo val l (out ++ ((⟨#[47]⟩ : ByteArray) ++ p.2)) else
  match val p.2 with
  | none => none
  | some v => if badV p v = true then none else pathGo val l (out ++ ((⟨#[47]⟩ : ByteArray) ++ v))
theorem path_tell (val : ByteArray → Option ByteArray) : ∀ (l : List Pc) (out s : ByteArray), pathGo val l out = some s → ∃ xs, tellGo val l = some xs ∧ s = out ++ slashed xs ∧ ∀ q ∈ l.zip xs, q.1.1 = 0 ∧ q.2 = q.1.2 ∨ q.1.1 ≠ 0 ∧ badV q.1 q.2 = false
 | [], out, s, h => by
  obtain rfl := Option.some.inj h
  refine ⟨[], rfl, ?_, fun q hq => by simp at hq⟩
  apply ba_ext
  simp [slashed, ByteArray.data_append]
 | p :: l, out, s, h => by
  unfold pathGo at h
  have fin : ∀ v : ByteArray, (if p.1 = 0 then some p.2 else val p.2) = some v → pathGo val l (out ++ ((⟨#[47]⟩ : ByteArray) ++ v)) = some s → (p.1 = 0 ∧ v = p.2 ∨ p.1 ≠ 0 ∧ badV p v = false) →
    ∃ xs, tellGo val (p :: l) = some xs ∧ s = out ++ slashed xs ∧ ∀ q ∈ (p :: l).zip xs, q.1.1 = 0 ∧ q.2 = q.1.2 ∨ q.1.1 ≠ 0 ∧ badV q.1 q.2 = false := fun v hv hg hb => by
   obtain ⟨xs, h1, h2, h3⟩ := path_tell val l _ s hg
   refine ⟨v :: xs, ?_, ?_, fun q hq => ?_⟩
   ·unfold tellGo
    rw [hv, h1]
   ·rw [h2]
    apply ba_ext
    simp [slashed, ByteArray.data_append, List.append_assoc]
   ·rw [List.zip_cons_cons] at hq
    rcases List.mem_cons.1 hq with rfl | hq
    ·exact hb
    ·exact h3 q hq
  by_cases h0 : p.1 = 0
  ·rw [if_pos h0] at h
   exact fin p.2 (if_pos h0) h (.inl ⟨h0, rfl⟩)
  ·rw [if_neg h0] at h
   cases hv : val p.2 with
   | none => rw [hv] at h; simp at h
   | some v =>
    rw [hv] at h
    simp only at h
    by_cases hb : badV p v = true
    ·rw [if_pos hb] at h; simp at h
    ·rw [if_neg hb] at h
     exact fin v (by rw [if_neg h0]; exact hv) h (.inr ⟨h0, by simpa using hb⟩)
end Go.Proofs.YtiohmnhbmmhnhaaGreatDoor
namespace Go.Proofs.YtiohmnhbmmhnhaaGreatDoor
open Go.RowKit Go.Shelf Go.Lib
def valOf (vs : List Pr) (s : ByteArray) : Option ByteArray := (vs.find? fun x => decide (x.1 = s)).map (·.2.1)
def valV : Option ByteArray → Value
 | some v => .tuple #[.string v, .bool true]
 | none => .tuple #[.string ⟨#[]⟩, .bool false]
theorem valOf_at {s : ByteArray} : ∀ {vs : List Pr} {k : Nat} {x : Pr}, vs[k]? = some x → x.1 = s → (∀ j y, j < k → vs[j]? = some y → y.1 ≠ s) → valOf vs s = some x.2.1
 | [], k, x, hx, _, _ => by simp at hx
 | y :: vs, 0, x, hx, h, _ => by
  simp at hx
  subst hx
  unfold valOf
  rw [List.find?_cons_of_pos (p := fun z : Pr => decide (z.1 = s)) (decide_eq_true h)]
  rfl
 | y :: vs, k + 1, x, hx, h, hno => by
  have h0 := hno 0 y (by omega) rfl
  have ih := valOf_at (vs := vs) (k := k) (by simpa using hx) h (fun j z hj hz => hno (j + 1) z (by omega) (by simpa using hz))
  unfold valOf at ih ⊢
  rw [List.find?_cons_of_neg (p := fun z : Pr => decide (z.1 = s)) (by simpa using h0)]
  exact ih
theorem valOf_no {s : ByteArray} {vs : List Pr} (hno : ∀ (j : Nat) (y : Pr), vs[j]? = some y → y.1 ≠ s) : valOf vs s = none := by
 unfold valOf
 rw [List.find?_eq_none.2 fun x hx => ?_]
 ·rfl
 ·obtain ⟨j, hj⟩ := List.getElem?_of_mem hx
  simpa using hno j x hj
theorem valOf_mem {vs : List Pr} {s v : ByteArray} (h : valOf vs s = some v) : ∃ x ∈ vs, x.1 = s ∧ x.2.1 = v := by
 unfold valOf at h
 obtain ⟨x, hx, rfl⟩ := Option.map_eq_some_iff.1 h
 exact ⟨x, List.mem_of_find?_eq_some hx, by simpa using List.find?_some hx, rfl⟩
set_option maxRecDepth 20000 in
set_option maxHeartbeats 1000000 in
theorem pval1_any (s x y : ByteArray) (z : Bool) (nb : Nat) (w : World) (hc : w.cell? ⟨nb, 0, none⟩ = some (.string s)) (hlt : nb < w.heap.size) :
  Calls Tryz.prog 105 #[.agg #[.string x, .string y, .bool z], .pointer (some ⟨nb, 0, none⟩)] w fun e w' => e = .returned (.bool (decide (x = s))) ∧ Below w.heap.size w w' := by
 go_enter Tryz.func105, Tryz.ntmps105
 go_wp2
 go_ret
 exact ⟨ret_bool (eq_str x s), below_new (Below.refl _ _)⟩
def IdxV (vs : List Pr) (s : ByteArray) (n : Int) : Prop := (n = -1 ∧ valOf vs s = none) ∨ ∃ (k : Nat) (x : Pr), n = (k : Int) ∧ vs[k]? = some x ∧ valOf vs s = some x.2.1
set_option maxRecDepth 20000 in
set_option maxHeartbeats 1000000 in
theorem IndexP_any (A : Option Addr) (c : Nat) (vs : List Pr) (s : ByteArray) (nb : Nat) (w : World) (hr : Row w A (flat3 vs)) (hl : vs.length ≤ 4194304) (hc : w.cell? ⟨nb, 0, none⟩ = some (.string s)) (hlt : nb < w.heap.size) :
  Calls Tryz.prog 104 #[.slice A vs.length c, .func (.func 105) #[] #[.pointer (some ⟨nb, 0, none⟩)]] w fun e w' => (∃ n : Int, e = .returned (.int .i64 n) ∧ IdxV vs s n) ∧ Below w.heap.size w w' := by
 have hcf : ∀ args w, (callFunc 105 args).run Tryz.prog w = .ok (.enter 105 args) w := fun args w => Tryz.call105 args w
 have HF := Lib.hid (fun (W : World) (h : Below w.heap.size w W) (x y : ByteArray) (z : Bool) => pval1_any s x y z nb W ((h.cell (p := ⟨nb, 0, none⟩) hlt).trans hc) (Nat.lt_of_lt_of_le hlt h.size))
 have HR := Lib.hid hr
 clear hc hlt hr
 generalize Value.pointer (some ⟨nb, 0, none⟩) = cap at *
 go_enter Tryz.func104, Tryz.ntmps104
 go_wp2
 go_loopw [8] (fun i wr => ∃ k : Nat, k ≤ vs.length ∧ i = .int .i64 k ∧ Hid (∀ j x, j < k → vs[j]? = some x → x.1 ≠ s) ∧ Below w.heap.size w wr) (fun i _ => vs.length - (RowKit.intOf i).toNat)
 case atStart => exact ⟨0, by omega, rfl, Lib.hid (fun j x h => absurd h (Nat.not_lt_zero _)), Below.refl _ _⟩
 case round =>
  obtain ⟨k, hk, rfl, HK, hbw⟩ := hrel
  by_cases hlt : k < vs.length
  ·obtain ⟨⟨p, y, z⟩, hx⟩ := some_of_lt hlt
   obtain ⟨b, off, rfl, hb, f0, f1, f2⟩ := (HR.out.below hbw).trip hx
   have HC := Lib.hid (HF.out wr hbw p y z)
   have HX := Lib.hid hx
   clear hx
   by_cases hp : p = s
   ·have HV := Lib.hid (valOf_at HX.out hp HK.out)
    rw [decide_eq_true hp] at HC
    clear hp HK
    go_wp2_with fail
    refine HC.out.mono ?_
    rintro e w1 ⟨rfl, hb1⟩
    have hbw1 := hbw.trans (hb1.mono hbw.size)
    clear hb1 f0 f1 f2 HC
    go_wp2
    go_ret
    exact ⟨⟨_, rfl, .inr ⟨k, _, rfl, HX.out, HV.out⟩⟩, hbw1⟩
   ·have HK2 : Hid (∀ j x, j < k + 1 → vs[j]? = some x → x.1 ≠ s) := Lib.hid (fun j y hj hy => by
     rcases Nat.lt_or_ge j k with h | h
     ·exact HK.out j y h hy
     ·obtain rfl : j = k := by omega
      have := HX.out.symm.trans hy
      obtain rfl := Option.some.inj this
      exact hp)
    rw [decide_eq_false hp] at HC
    clear hp HK
    go_wp2_with fail
    refine HC.out.mono ?_
    rintro e w1 ⟨rfl, hb1⟩
    have hbw1 := hbw.trans (hb1.mono hbw.size)
    clear hb1 f0 f1 f2 HC
    go_wp2
    go_roundw
    case rel => exact ⟨k + 1, by omega, by go_num, HK2, hbw1⟩
    case measure => simp [RowKit.intOf]; omega
  ·obtain rfl : k = vs.length := by omega
   have HV := Lib.hid (valOf_no (s := s) (vs := vs) fun j y hy => HK.out j y (lt_of_some hy) hy)
   go_wp2
   go_ret
   exact ⟨⟨_, rfl, .inl ⟨rfl, HV.out⟩⟩, hbw⟩
set_option maxRecDepth 20000 in
set_option maxHeartbeats 1000000 in
theorem value_any (A : Option Addr) (c : Nat) (vs : List Pr) (s : ByteArray) (w : World) (hr : Row w A (flat3 vs)) (hl : vs.length ≤ 4194304) :
  Calls Tryz.prog 61 #[.slice A vs.length c, .string s] w fun e w' => e = .returned (valV (valOf vs s)) ∧ Below w.heap.size w w' := by
 have hmf : ∀ (fn : Fn) (first cap : Array Value) (w : World), (Instr.makeFunc fn first cap).run Tryz.prog w = .ok (.func fn first cap) w := fun _ _ _ _ => rfl
 have hb0 := (Below.refl w.heap.size w).alloc (Nat.le_refl _) (.cells #[.string s] 9)
 have HI := Lib.hid (IndexP_any A c vs s w.heap.size (w.alloc (.cells #[.string s] 9)) (hr.below hb0) hl (by simp) (by simp))
 have HR := Lib.hid hr
 clear hb0 hr
 go_enter Tryz.func61, Tryz.ntmps61
 go_wp2_with fail
 refine HI.out.mono ?_
 rintro e w1 ⟨⟨n, rfl, hn⟩, hb1⟩
 have hb2 : Below w.heap.size w w1 := below_new (by simpa using hb1)
 rcases hn with ⟨rfl, hv⟩ | ⟨k, ⟨x, y, z⟩, rfl, hx, hv⟩
 ·have HV := Lib.hid hv
  clear hb1 hv
  go_wp2
  go_ret2
  exact ⟨by rw [HV.out]; rfl, hb2⟩
 ·have hkl := lt_of_some hx
  have hki : (k : Int) < (vs.length : Int) := by omega
  have hk0 : ¬ (k : Int) < 0 := by omega
  obtain ⟨b, off, rfl, hb, f0, f1, f2⟩ := (HR.out.below hb2).trip hx
  have HV := Lib.hid hv
  clear hb1 hv hx
  go_wp2
  go_ret2
  exact ⟨by rw [HV.out]; rfl, hb2⟩
set_option maxRecDepth 20000 in
set_option maxHeartbeats 1000000 in
theorem rvalue_any (A : Option Addr) (c : Nat) (vs : List Pr) (s : ByteArray) (w : World) (hr : Row w A (flat3 vs)) (hl : vs.length ≤ 4194304) :
  Calls Tryz.prog 65 #[.slice A vs.length c, .string s] w fun e w' => e = .returned (valV (valOf vs s)) ∧ Below w.heap.size w w' := by
 have HR := Lib.hid hr
 clear hr
 go_enter Tryz.func65, Tryz.ntmps65
 go_wp2
 go_loopw [10] (fun i wr => ∃ k : Nat, k ≤ vs.length ∧ i = .int .i64 k ∧ Hid (∀ j x, j < k → vs[j]? = some x → x.1 ≠ s) ∧ Below w.heap.size w wr) (fun i _ => vs.length - (RowKit.intOf i).toNat)
 case atStart => exact ⟨0, by omega, rfl, Lib.hid (fun j x h => absurd h (Nat.not_lt_zero _)), Below.refl _ _⟩
 case round =>
  obtain ⟨k, hk, rfl, HK, hbw⟩ := hrel
  by_cases hlt : k < vs.length
  ·obtain ⟨⟨p, y, z⟩, hx⟩ := some_of_lt hlt
   obtain ⟨b, off, rfl, hb, f0, f1, f2⟩ := (HR.out.below hbw).trip hx
   have hki : (k : Int) < (vs.length : Int) := by omega
   have HX := Lib.hid hx
   have hb5 : Below w.heap.size w (wr.alloc (.cells #[.string p, .string y, .bool z] 71)) := hbw.alloc hbw.size _
   clear hx
   by_cases hp : p = s
   ·have HV := Lib.hid (valOf_at HX.out hp HK.out)
    have hq : (p.toList == s.toList) = true := by rw [eq_str]; exact decide_eq_true hp
    clear hp HK
    go_wp2
    go_ret2
    exact ⟨by rw [HV.out]; rfl, hb5⟩
   ·have HK2 : Hid (∀ j x, j < k + 1 → vs[j]? = some x → x.1 ≠ s) := Lib.hid (fun j y hj hy => by
     rcases Nat.lt_or_ge j k with h | h
     ·exact HK.out j y h hy
     ·obtain rfl : j = k := by omega
      have := HX.out.symm.trans hy
      obtain rfl := Option.some.inj this
      exact hp)
    have hq : (p.toList == s.toList) = false := by rw [eq_str]; exact decide_eq_false hp
    clear hp HK
    go_wp2
    go_roundw
    case rel => exact ⟨k + 1, by omega, by go_num, HK2, hb5⟩
    case measure => simp [RowKit.intOf]; omega
  ·obtain rfl : k = vs.length := by omega
   have HV := Lib.hid (valOf_no (s := s) (vs := vs) fun j y hy => HK.out j y (lt_of_some hy) hy)
   go_wp2
   go_ret2
   exact ⟨by rw [HV.out]; rfl, hbw⟩
theorem hasSl_in (s : ByteArray) : inB s 47 = hasSl s := by
 unfold inB hasSl
 rw [Bool.eq_iff_iff]
 constructor
 ·intro h
  refine Classical.byContradiction fun hn => ?_
  rw [allB_true fun j hj => ?_] at h
  ·cases h
  ·have := hasSl_no (s := s) (by unfold hasSl; simpa using hn) j hj
   simp [this]
 ·intro h
  rw [List.any_eq_true] at h
  obtain ⟨j, hj, e⟩ := h
  cases ha : allB (fun b => !decide (b = 47)) s with
  | false => rfl
  | true =>
   have this : (!decide (bt s j = 47)) = true := allB_at ha j (List.mem_range.1 hj)
   rw [e] at this
   cases this
theorem hasSl_yes {s : ByteArray} {k : Nat} (h : k < s.size) (e : bt s k = 47) : hasSl s = true := List.any_eq_true.2 ⟨k, List.mem_range.2 h, decide_eq_true e⟩
theorem hasSl_none {s : ByteArray} (h : ∀ j, j < s.size → bt s j ≠ 47) : hasSl s = false := by
 unfold hasSl
 rw [List.any_eq_false]
 intro j hj
 simpa using h j (List.mem_range.1 hj)
set_option maxRecDepth 20000 in
theorem rhas_any (s : ByteArray) (w : World) (hs : s.size ≤ 1099511627776) :
  Calls Tryz.prog 66 #[.string s] w fun e w' => e = .returned (.bool (hasSl s)) ∧ w = w' := by
 go_enter Tryz.func66, Tryz.ntmps66
 go_wp2
 go_loop [3] (fun i => ∃ k : Nat, k ≤ s.size ∧ i = .int .i64 k ∧ Hid (∀ j, j < k → bt s j ≠ 47)) (fun i => s.size - (RowKit.intOf i).toNat)
 case atStart => exact ⟨0, by omega, rfl, Lib.hid (fun j h => absurd h (Nat.not_lt_zero _))⟩
 case round =>
  obtain ⟨k, hk, rfl, HK⟩ := hrel
  by_cases hlt : k < s.size
  ·have hb := @bt_eq s k hlt
   have hk0 : (0 : Int) ≤ (k : Int) := by omega
   have hk1 : (k : Int) < (s.size : Int) := by omega
   by_cases hc : bt s k = 47
   ·have hcc : (bt s k == 47) = true := by simpa using hc
    have HV := Lib.hid (hasSl_yes hlt hc)
    clear hc HK
    go_wp2
    go_ret
    exact ⟨by rw [HV.out]; rfl, rfl⟩
   ·have hcc : (bt s k == 47) = false := by simpa using hc
    have HK2 : Hid (∀ j, j < k + 1 → bt s j ≠ 47) := Lib.hid (fun j hj => by
     rcases Nat.lt_or_ge j k with h | h
     ·exact HK.out j h
     ·obtain rfl : j = k := by omega
      exact hc)
    clear hc HK
    go_wp2
    go_round
    case rel => exact ⟨k + 1, by omega, by go_num, HK2⟩
    case measure => simp [RowKit.intOf]; omega
  ·obtain rfl : k = s.size := by omega
   have HV := Lib.hid (hasSl_none HK.out)
   go_wp2
   go_ret
   exact ⟨by rw [HV.out]; rfl, rfl⟩
def pathOut (o : Option ByteArray) : ByteArray × Int := match o with
 | some s => (s, 0)
 | none => (⟨#[]⟩, 143)
def pathP (l : List Rt) (i : Int) (vs : List Pr) : ByteArray × Int := if i < 0 ∨ (l.length : Int) ≤ i then (⟨#[]⟩, 140) else
 pathOut (pathGo (valOf vs) ((segsP (l.getD i.toNat ([], ⟨#[]⟩)).2).map pcOf) ⟨#[]⟩)
theorem pathP_out {l : List Rt} {i : Int} {vs : List Pr} (h : i < 0 ∨ (l.length : Int) ≤ i) : pathP l i vs = (⟨#[]⟩, 140) := if_pos h
theorem pathP_in {l : List Rt} {k : Nat} {vs : List Pr} {r : Rt} (h : l[k]? = some r) : pathP l (k : Int) vs = pathOut (pathGo (valOf vs) ((segsP r.2).map pcOf) ⟨#[]⟩) := by
 have hk := lt_of_some h
 unfold pathP
 rw [if_neg (by omega), List.getD_eq_getElem?_getD, show ((k : Int)).toNat = k by omega, h]
 rfl
theorem segs_of {p : ByteArray} (h : 0 < p.size) : segsP p = splitC (p.extract 1 p.size) 47 := by rw [segsP_A p, segs_split p _ 0 (Nat.le_refl _) h]
theorem pc_static {g : ByteArray} (h : g.size = 0 ∨ (bt g 0 ≠ 58 ∧ bt g 0 ≠ 42)) : pcOf g = (0, g) := by
 unfold pcOf
 rw [if_neg, if_neg]
 ·rintro ⟨h1, h2⟩
  rcases h with h | h
  ·omega
  ·exact h.2 h2
 ·rintro ⟨h1, h2⟩
  rcases h with h | h
  ·omega
  ·exact h.1 h2
theorem pc_par {g : ByteArray} (h : 0 < g.size) (h2 : bt g 0 = 58) : pcOf g = (1, g.extract 1 g.size) := by
 unfold pcOf
 rw [if_pos ⟨h, h2⟩]
theorem pc_rest {g : ByteArray} (h : 0 < g.size) (h2 : bt g 0 = 42) : pcOf g = (2, g.extract 1 g.size) := by
 unfold pcOf
 rw [if_neg (by rw [h2]; rintro ⟨_, h⟩; exact absurd h (by decide)), if_pos ⟨h, h2⟩]
def pcsFrom (gs : List ByteArray) (k : Nat) : List Pc := (gs.drop k).map pcOf
theorem pcs_step {gs : List ByteArray} {k : Nat} {g : ByteArray} (h : gs[k]? = some g) : pcsFrom gs k = pcOf g :: pcsFrom gs (k + 1) := by
 unfold pcsFrom
 rw [List.drop_eq_getElem_cons (lt_of_some h), List.map_cons]
 congr 1
 exact congrArg pcOf (List.getElem?_eq_some_iff.1 h).2
theorem pcs_end (gs : List ByteArray) : pcsFrom gs gs.length = [] := by unfold pcsFrom; rw [List.drop_length]; rfl
theorem go_static {val : ByteArray → Option ByteArray} {l : List Pc} {g acc : ByteArray} : pathGo val ((0, g) :: l) acc = pathGo val l (acc ++ ((⟨#[47]⟩ : ByteArray) ++ g)) := by
 conv => lhs; unfold pathGo
 rw [if_pos rfl]
theorem go_none {val : ByteArray → Option ByteArray} {l : List Pc} {p : Pc} {acc : ByteArray} (h : p.1 ≠ 0) (hv : val p.2 = none) : pathGo val (p :: l) acc = none := by
 unfold pathGo
 rw [if_neg h, hv]
theorem go_bad {val : ByteArray → Option ByteArray} {l : List Pc} {p : Pc} {acc v : ByteArray} (h : p.1 ≠ 0) (hv : val p.2 = some v) (hb : badV p v = true) : pathGo val (p :: l) acc = none := by
 unfold pathGo
 rw [if_neg h, hv]
 simp only
 rw [if_pos hb]
theorem go_fine {val : ByteArray → Option ByteArray} {l : List Pc} {p : Pc} {acc v : ByteArray} (h : p.1 ≠ 0) (hv : val p.2 = some v) (hb : badV p v = false) : pathGo val (p :: l) acc = pathGo val l (acc ++ ((⟨#[47]⟩ : ByteArray) ++ v)) := by
 conv => lhs; unfold pathGo
 rw [if_neg h, hv]
 simp only
 rw [if_neg (by rw [hb]; simp)]
theorem acc_grow (acc v : ByteArray) : (acc ++ ((⟨#[47]⟩ : ByteArray) ++ v)).size = acc.size + 1 + v.size := by
 rw [ByteArray.size_append, ByteArray.size_append]
 show acc.size + (1 + v.size) = _
 omega
theorem acc_two (acc v : ByteArray) : (acc ++ (⟨#[47]⟩ : ByteArray)) ++ v = acc ++ ((⟨#[47]⟩ : ByteArray) ++ v) := ByteArray.append_assoc
theorem gives_path {w w' : World} {l : List Rt} {i : Int} {vs : List Pr} {s : ByteArray} {c : Int} (h : pathP l i vs = (s, c)) (hb : Below w.heap.size w w') : Ending.returned (.tuple #[.string s, .int .i64 c]) = .returned (.tuple #[.string (pathP l i vs).1, .int .i64 (pathP l i vs).2]) ∧ Below w.heap.size w w' := by
 rw [h]; exact ⟨rfl, hb⟩
end Go.Proofs.YtiohmnhbmmhnhaaGreatDoor
namespace Go.Proofs.YtiohmnhbmmhnhaaGreatDoor
open Go.RowKit Go.Shelf Go.Lib
theorem ba_nil {g : ByteArray} (h : g.size = 0) : g = ⟨#[]⟩ := by
 apply ba_ext
 have h2 : g.data.toList.length = 0 := by rw [size_eq]; exact h
 rw [List.length_eq_zero_iff.1 h2]
theorem piece_own {gs : List ByteArray} {w : World} {pb k : Nat} {g : ByteArray} (h : w.heap[pb]? = some (.cells (gs.map Value.string).toArray 9 (0, 0))) (hk : gs[k]? = some g) : pb < w.heap.size ∧ w.cell? ⟨pb, k, none⟩ = some (.string g) := by
 refine ⟨(Array.getElem?_eq_some_iff.1 h).1, ?_⟩
 have hc : w.cell? ⟨pb, k, none⟩ = (gs.map Value.string).toArray[k]? := cell_of_row w pb k _ 9 (0, 0) h
 rw [hc]
 simp [hk]
theorem pieces_kept {gs : List ByteArray} {w w' : World} {pb b : Nat} (h : w.heap[pb]? = some (.cells (gs.map Value.string).toArray 9 (0, 0))) (hk : Lib.OthersKept 5 (some b) w w') (hne : pb ≠ b) : w'.heap[pb]? = some (.cells (gs.map Value.string).toArray 9 (0, 0)) :=
 hk pb _ h (fun e => hne (Option.some.inj e)) (fun c fz e => by injection e with _ e2 _; exact absurd e2 (by decide))
theorem bytes_of (acc s : ByteArray) : Lib.byteCells acc.data.toList ++ Lib.strCells s = Lib.byteCells (acc ++ s).data.toList := by
 rw [ByteArray.data_append, Array.toList_append, Lib.byteCells_append]
 rfl
set_option maxRecDepth 100000 in
set_option maxHeartbeats 8000000 in
theorem rtPath_any (t : Nat) (sl : Bool) (l : List Rt) (VA : Option Addr) (vc : Nat) (vs : List Pr) (i : Int) (w : World) (hT : TableAt w t sl l) (hv : Row w VA (flat3 vs)) (hvl : vs.length ≤ 1048576) (hvz : ∀ x ∈ vs, x.2.1.size ≤ 1048576) (hg : GlobR w) :
  Calls Tryz.prog 28 #[.pointer (some ⟨t, 0, none⟩), .int .i64 i, .slice VA vs.length vc] w fun e w' => e = .returned (.tuple #[.string (pathP l i vs).1, .int .i64 (pathP l i vs).2]) ∧ Below w.heap.size w w' := by
 obtain ⟨q, es, S, A, c, rs, h⟩ := hT
 have hrl : rs.length = l.length := by rw [← plA_length rs, h.pl]
 by_cases hi0 : i < 0
 ·have HP := Lib.hid (pathP_out (l := l) (vs := vs) (.inl hi0))
  clear h hv hg hrl
  go_enter Tryz.func28, Tryz.ntmps28
  go_wp2
  go_ret2
  exact gives_path HP.out (Below.refl _ _)
 ·by_cases hil : (l.length : Int) ≤ i
  ·have HP := Lib.hid (pathP_out (l := l) (vs := vs) (.inr hil))
   have hil2 : (rs.length : Int) ≤ i := by omega
   have q1 := h.c1
   have hlow := h.low
   clear h hv hg hrl hil
   go_enter Tryz.func28, Tryz.ntmps28
   go_wp2
   go_ret2
   exact gives_path HP.out (Below.refl _ _)
  ·obtain ⟨k0, rfl⟩ : ∃ k : Nat, i = (k : Int) := ⟨i.toNat, by omega⟩
   have hkr : k0 < rs.length := by omega
   obtain ⟨x, hx⟩ := some_of_lt hkr
   have hpx : l[k0]? = some x.1.2 := by rw [← h.pl]; exact plA_get hx
   have hP0 := pathP_in (vs := vs) hpx
   have hgood := chk_split (wrong_chk (h.goodl.one _ (List.mem_of_getElem? hpx)))
   obtain ⟨_, _, _, _, hpz, _, _, hp0, _⟩ := split_wf hgood
   have hb1 : Below w.heap.size w (w.alloc (.cells #[.pointer none, .slice none 0 0] 122)) := (Below.refl _ _).alloc (Nat.le_refl _) _
   have q0 := h.c1
   have hlow0 := h.low
   have q1 := (h.below hb1).c1
   have hlow := (h.below hb1).low
   obtain ⟨b, off, hA, hb, _, f1, _⟩ := (h.row.below hb1).ra hx
   have HFR := Lib.hid (Lib.IsBuilderF.of (Lib.fresh_isBuilder 122 5 w))
   have HGL := Lib.hid (fun (W : World) (hh : Below w.heap.size w W) => hg.beyond hh)
   have HVA := Lib.hid (fun (W : World) (hh : Below w.heap.size w W) (s : ByteArray) => value_any VA vc vs s W (hv.below hh) (by omega))
   have HSP := Lib.hid (Split_any (x.1.2.2.extract 1 x.1.2.2.size) 47 (w.alloc (.cells #[.pointer none, .slice none 0 0] 122)) (by rw [ByteArray.size_extract]; omega) (hg.beyond hb1).g)
   have hgl := splitC_len (x.1.2.2.extract 1 x.1.2.2.size) 47
   have hgz := fun g => @splitC_size (x.1.2.2.extract 1 x.1.2.2.size) 47 g
   rw [segs_of hp0] at hP0
   rw [show ((47 : UInt8).toNat : Int) = 47 by rfl] at HSP
   have hez : (x.1.2.2.extract 1 x.1.2.2.size).size ≤ 1024 := by rw [ByteArray.size_extract]; omega
   generalize x.1.2.2 = p at *
   generalize splitC (p.extract 1 p.size) 47 = gs at *
   have HGZ := Lib.hid (show ∀ g ∈ gs, g.size ≤ 1024 from fun g hm => Nat.le_trans (hgz g hm) hez)
   have hgl2 : gs.length ≤ 1025 := by omega
   have HVZ := Lib.hid (show ∀ (s v : ByteArray), valOf vs s = some v → v.size ≤ 1048576 from fun s v hh => by
    obtain ⟨x, hx, _, rfl⟩ := valOf_mem hh
    exact hvz x hx)
   obtain ⟨R, hR⟩ : ∃ R, pathGo (valOf vs) (pcsFrom gs 0) ⟨#[]⟩ = R := ⟨_, rfl⟩
   have hP1 : pathP l (k0 : Int) vs = pathOut R := by rw [hP0, ← hR]; rfl
   have HP := Lib.hid hP1
   have HR := Lib.hid hR
   have hkI : ¬ (rs.length : Int) ≤ (k0 : Int) := by omega
   have hkJ : (k0 : Int) < (rs.length : Int) := by omega
   subst hA
   clear h hv hg hrl hil hi0 hpx hP0 hgood hx hgz hgl hez hvz hR hP1
   have hp1 : (1 : Int) ≤ (p.size : Int) := by omega
   have HB1 := Lib.hid hb1
   clear hb1
   go_enter Tryz.func28, Tryz.ntmps28
   go_wp2_with fail
   refine HSP.out.mono ?_
   rintro e w2 ⟨rfl, hw2⟩
   have hsz1 : (w.alloc (.cells #[.pointer none, .slice none 0 0] 122)).heap.size = w.heap.size + 1 := by simp
   have hPB : w2.heap[w.heap.size + 1]? = some (.cells (gs.map Value.string).toArray 9 (0, 0)) := by
    rw [hw2, ← hsz1]; exact heap_alloc_new _ _
   have HPB := Lib.hid hPB
   have hb2 : Below w.heap.size w w2 := by rw [hw2]; exact HB1.out.alloc HB1.out.size _
   have HB2 := Lib.hid hb2
   have HI2 := Lib.hid (show Lib.IsBuilderF 122 5 w.heap.size w.heap.size (Lib.byteCells (⟨#[]⟩ : ByteArray).data.toList) w2 by rw [hw2]; exact HFR.out.alloc _)
   have hz2 : w.heap.size < w2.heap.size := by rw [hw2]; simp; omega
   rw [hsz1]
   clear hw2 hsz1 HFR hb2 q0 hlow0 q1 hlow f1 hb HSP hPB
   generalize hpb : w.heap.size + 1 = pb at *
   have hne : pb ≠ w.heap.size := by omega
   clear hpb
   go_wp2
   go_loopw [41] (fun i wr => ∃ (k : Nat) (acc : ByteArray), k ≤ gs.length ∧ i = .int .i64 k ∧ Hid (wr.heap[pb]? = some (.cells (gs.map Value.string).toArray 9 (0, 0))) ∧ Hid (Lib.IsBuilderF 122 5 w.heap.size w.heap.size (Lib.byteCells acc.data.toList) wr) ∧ Hid (Below w.heap.size w wr) ∧ w.heap.size < wr.heap.size ∧ Hid (pathGo (valOf vs) (pcsFrom gs k) acc = R) ∧ acc.size ≤ k * 1048578) (fun i _ => gs.length - (RowKit.intOf i).toNat)
   case atStart => exact ⟨0, ⟨#[]⟩, by omega, rfl, HPB, HI2, HB2, hz2, HR, by decide⟩
   case round =>
    clear HPB HI2 HB2 hz2 HR
    obtain ⟨k, acc, hk, rfl, HPB, HI, HB, hwz, HR, hacc⟩ := hrel
    by_cases hlt : k < gs.length
    ·obtain ⟨g, hgk⟩ := some_of_lt hlt
     obtain ⟨hpl, hpc⟩ := piece_own HPB.out hgk
     have hgz := HGZ.out g (List.mem_of_getElem? hgk)
     have hki : (k : Int) < (gs.length : Int) := by omega
     have HGK := Lib.hid hgk
     have hst := pcs_step hgk
     have hR := HR.out
     rw [hst] at hR
     have hWS := Lib.hid (WriteString_k w.heap.size w.heap.size _ ⟨#[47]⟩ _ HI.out (by rw [Lib.byteCells_length, size_eq]; have : (⟨#[47]⟩ : ByteArray).size = 1 := rfl; omega) (by omega))
     clear hgk hst
     go_wp2_with fail
     refine hWS.out.mono ?_
     rintro e w3 ⟨rfl, h3, hb3, ho3⟩
     have HI3 := Lib.hid (show Lib.IsBuilderF 122 5 w.heap.size w.heap.size (Lib.byteCells (acc ++ (⟨#[47]⟩ : ByteArray)).data.toList) w3 from .inr (by rw [← bytes_of]; exact h3))
     have HPB3 := Lib.hid (pieces_kept HPB.out ho3 hne)
     have HB3 := Lib.hid (HB.out.trans hb3)
     have hwz3 : w.heap.size < w3.heap.size := Nat.lt_of_lt_of_le hwz hb3.size
     have ha1 : (acc ++ (⟨#[47]⟩ : ByteArray)).size = acc.size + 1 := by rw [ByteArray.size_append]; rfl
     clear h3 hb3 ho3 hWS HI HPB HB hwz hpl hpc
     by_cases hst : g.size = 0 ∨ (bt g 0 ≠ 58 ∧ bt g 0 ≠ 42)
     ·rw [pc_static hst, go_static] at hR
      have HR2 := Lib.hid hR
      have hWS := Lib.hid (WriteString_k w.heap.size w.heap.size _ g _ HI3.out (by rw [Lib.byteCells_length, size_eq]; omega) (by omega))
      have fin : Hid (∀ (w4 : World), Lib.BuilderAtF 122 5 w.heap.size w.heap.size (.pointer (some ⟨w.heap.size, 0, none⟩)) (Lib.byteCells (acc ++ (⟨#[47]⟩ : ByteArray)).data.toList ++ Lib.strCells g) w4 → Lib.IsBuilderF 122 5 w.heap.size w.heap.size (Lib.byteCells (acc ++ ((⟨#[47]⟩ : ByteArray) ++ g)).data.toList) w4) := Lib.hid (fun w4 h4 => .inr (by rw [← acc_two, ← bytes_of]; exact h4))
      have hag := acc_grow acc g
      by_cases hg0 : g.size = 0
      ·have hge : g.toList.isEmpty = true := by rw [empty_eq]; exact decide_eq_true hg0
       have hge2 : (g.toList == ([] : List UInt8)) = true := by
        have := eq_str g ⟨#[]⟩
        rw [show (⟨#[]⟩ : ByteArray).toList = [] by decide +kernel] at this
        rw [this]
        exact decide_eq_true (ba_nil hg0)
       clear hst hR
       go_wp2_with fail
       refine hWS.out.mono ?_
       rintro e w4 ⟨rfl, h4, hb4, ho4⟩
       have HI4 := Lib.hid (fin.out w4 h4)
       have HPB4 := Lib.hid (pieces_kept HPB3.out ho4 hne)
       have HB4 := Lib.hid (HB3.out.trans hb4)
       have hwz4 : w.heap.size < w4.heap.size := Nat.lt_of_lt_of_le hwz3 hb4.size
       clear h4 hb4 ho4 hWS
       go_wp2
       go_roundw
       case rel => exact ⟨k + 1, _, by omega, by go_num, HPB4, HI4, HB4, hwz4, HR2, by omega⟩
       case measure => simp [RowKit.intOf]; omega
      ·have hgp : 0 < g.size := by omega
       have hne2 : g.toList.isEmpty = false := by rw [empty_eq]; exact decide_eq_false hg0
       have hge2 : (g.toList == ([] : List UInt8)) = false := empty_test hgp
       obtain ⟨h58, h42⟩ := hst.resolve_left hg0
       have hbt := @bt_eq g 0 hgp
       have hg1 : (0 : Int) < (g.size : Int) := by omega
       have c58 : (bt g 0 == 58) = false := by simpa using h58
       have c42 : (bt g 0 == 42) = false := by simpa using h42
       have d58 : (bt g 0 != 58) = true := by simpa using h58
       have d42 : (bt g 0 != 42) = true := by simpa using h42
       clear hst hR h58 h42
       go_wp2_with fail
       refine hWS.out.mono ?_
       rintro e w4 ⟨rfl, h4, hb4, ho4⟩
       have HI4 := Lib.hid (fin.out w4 h4)
       have HPB4 := Lib.hid (pieces_kept HPB3.out ho4 hne)
       have HB4 := Lib.hid (HB3.out.trans hb4)
       have hwz4 : w.heap.size < w4.heap.size := Nat.lt_of_lt_of_le hwz3 hb4.size
       clear h4 hb4 ho4 hWS
       go_wp2
       go_roundw
       case rel => exact ⟨k + 1, _, by omega, by go_num, HPB4, HI4, HB4, hwz4, HR2, by omega⟩
       case measure => simp [RowKit.intOf]; omega
     ·have hgp : 0 < g.size := by
       rcases Nat.eq_zero_or_pos g.size with h | h
       ·exact absurd (.inl h) hst
       ·exact h
      have hkind : bt g 0 = 58 ∨ bt g 0 = 42 := by
       rcases Classical.em (bt g 0 = 58) with h | h
       ·exact .inl h
       ·rcases Classical.em (bt g 0 = 42) with h2 | h2
        ·exact .inr h2
        ·exact absurd (.inr ⟨h, h2⟩) hst
      obtain ⟨kd, hkd, hpc, hkq⟩ : ∃ kd : Int, kd ≠ 0 ∧ pcOf g = (kd, g.extract 1 g.size) ∧ decide (kd = 1) = decide (bt g 0 = 58) := by
       rcases hkind with e | e
       ·exact ⟨1, by decide, pc_par hgp e, by rw [e]; rfl⟩
       ·exact ⟨2, by decide, pc_rest hgp e, by rw [e]; rfl⟩
      rw [hpc] at hR
      have hne2 : g.toList.isEmpty = false := by rw [empty_eq]; exact decide_eq_false (by omega)
      have hge2 : (g.toList == ([] : List UInt8)) = false := empty_test hgp
      have hbt := @bt_eq g 0 hgp
      have hg1 : (0 : Int) < (g.size : Int) := by omega
      have hg2 : (1 : Int) ≤ (g.size : Int) := by omega
      have HR1 := Lib.hid hR
      have HKQ := Lib.hid hkq
      have HVV0 := HVA.out w3 HB3.out (g.extract 1 g.size)
      have HSG := Lib.hid (fun (W : World) (hh : Below w3.heap.size w3 W) (s : ByteArray) (hs : s.size ≤ 4194304) => Segments_any s W hs (HGL.out W (HB3.out.trans (hh.mono HB3.out.size))))
      have HHAS := Lib.hid (fun (s : ByteArray) (W : World) => Has_any s 47 W)
      obtain ⟨nm, hnm⟩ : ∃ nm, g.extract 1 g.size = nm := ⟨_, rfl⟩
      rw [hnm] at HVV0 HR1
      obtain ⟨o, ho⟩ : ∃ o, valOf vs nm = o := ⟨_, rfl⟩
      rw [ho] at HVV0
      have HVV := Lib.hid HVV0
      have HO := Lib.hid ho
      have HNM := Lib.hid hnm
      clear hst hR hpc hkq ho HVV0 hnm
      rcases hkind with h58 | h42
      ·have hkk := h58
       have c58 : (bt g 0 == 58) = true := by rw [h58]; rfl
       have d58 : (bt g 0 != 58) = false := by rw [h58]; rfl
       clear h58
       go_wp2_with fail
       rw [HNM.out]
       refine HVV.out.mono ?_
       rintro e w4 ⟨rfl, hb4⟩
       have HI4 := Lib.hid (builder_below HI3.out hb4)
       have HPB4 := Lib.hid ((hb4.block pb (Array.getElem?_eq_some_iff.1 HPB3.out).1).trans HPB3.out)
       have HB4 := Lib.hid (HB3.out.trans (hb4.mono HB3.out.size))
       have HX4 := Lib.hid hb4
       have hwz4 : w.heap.size < w4.heap.size := Nat.lt_of_lt_of_le hwz3 hb4.size
       clear hb4 HVV HI3 HPB3
       cases o with
       | none =>
        have HP2 := Lib.hid (show R = none from by rw [← HR1.out]; exact go_none hkd HO.out)
        have HS1 := Lib.hid (HSG.out w4 HX4.out ((⟨#[47]⟩ : ByteArray) ++ (⟨#[]⟩ : ByteArray)) (by decide))
        clear hkd HR1 hkk
        dsimp only [valV]
        go_wp2_with fail
        refine HS1.out.mono ?_
        rintro e w5 ⟨SA, sc, rfl, _, hb5⟩
        have HB5 := Lib.hid (HB4.out.trans (hb5.mono HB4.out.size))
        clear hb5
        go_wp2
        go_ret2
        exact gives_path (by rw [HP.out, HP2.out]; rfl) HB5.out
       | some v =>
        have hvz := HVZ.out _ _ HO.out
        have hno : ¬ 9223372036854775807 < 1 + v.size := by omega
        have h1v : ((⟨#[47]⟩ : ByteArray) ++ v).size = 1 + v.size := by rw [ByteArray.size_append]; rfl
        have HS1 := Lib.hid (HSG.out w4 HX4.out ((⟨#[47]⟩ : ByteArray) ++ v) (by omega))
        have hbad := @go_bad (valOf vs) (pcsFrom gs (k + 1)) (kd, nm) (acc) v hkd HO.out
        have hfine := @go_fine (valOf vs) (pcsFrom gs (k + 1)) (kd, nm) (acc) v hkd HO.out
        rw [HR1.out] at hbad hfine
        unfold badV at hbad hfine
        dsimp only at hbad hfine
        rw [HKQ.out, decide_eq_true hkk] at hbad hfine
        dsimp only [valV]
        cases hip : isPathB ((⟨#[47]⟩ : ByteArray) ++ v)
        ·have HP2 := Lib.hid (hbad (by rw [hip]; rfl))
         rw [segR_no hip] at HS1
         clear hkd HR1 hbad hfine hip hkk
         go_wp2_with fail
         refine HS1.out.mono ?_
         rintro e w5 ⟨SA, sc, rfl, _, hb5⟩
         have HB5 := Lib.hid (HB4.out.trans (hb5.mono HB4.out.size))
         clear hb5
         go_wp2
         go_ret2
         exact gives_path (by rw [HP.out, HP2.out]; rfl) HB5.out
        ·rw [segR_yes hip] at HS1
         have fin : Hid (∀ (w6 : World), Lib.BuilderAtF 122 5 w.heap.size w.heap.size (.pointer (some ⟨w.heap.size, 0, none⟩)) (Lib.byteCells (acc ++ (⟨#[47]⟩ : ByteArray)).data.toList ++ Lib.strCells v) w6 → Lib.IsBuilderF 122 5 w.heap.size w.heap.size (Lib.byteCells (acc ++ ((⟨#[47]⟩ : ByteArray) ++ v)).data.toList) w6) := Lib.hid (fun w6 h6 => .inr (by rw [← acc_two, ← bytes_of]; exact h6))
         have hag := acc_grow acc v
         by_cases hv0 : v.size = 0
         ·have hve : v.toList.isEmpty = true := by rw [empty_eq]; exact decide_eq_true hv0
          have hve2 : (v.toList == ([] : List UInt8)) = true := by
           rw [emp_test]
           exact decide_eq_true (ba_nil hv0)
          have HP2 := Lib.hid (hbad (by rw [hip, decide_eq_true hv0]; rfl))
          clear hkd HR1 hbad hfine hip hkk
          go_wp2_with fail
          refine HS1.out.mono ?_
          rintro e w5 ⟨SA, sc, rfl, _, hb5⟩
          have HB5 := Lib.hid (HB4.out.trans (hb5.mono HB4.out.size))
          clear hb5
          go_wp2
          go_ret2
          exact gives_path (by rw [HP.out, HP2.out]; rfl) HB5.out
         ·have hve : v.toList.isEmpty = false := by rw [empty_eq]; exact decide_eq_false hv0
          have hve2 : (v.toList == ([] : List UInt8)) = false := empty_test (by omega)
          have HH := Lib.hid (fun W => HHAS.out v W)
          rw [show ((47 : UInt8).toNat : Int) = 47 by rfl, hasSl_in] at HH
          cases hsl : hasSl v
          ·have HR2 := Lib.hid (hfine (by rw [hip, decide_eq_false hv0, hsl]; rfl))
           rw [hsl] at HH
           clear hkd HR1 hbad hfine hip hkk
           go_wp2_with fail
           refine HS1.out.mono ?_
           rintro e w5 ⟨SA, sc, rfl, _, hb5⟩
           have HI5 := Lib.hid (builder_below HI4.out hb5)
           have HPB5 := Lib.hid ((hb5.block pb (Array.getElem?_eq_some_iff.1 HPB4.out).1).trans HPB4.out)
           have HB5 := Lib.hid (HB4.out.trans (hb5.mono HB4.out.size))
           have hwz5 : w.heap.size < w5.heap.size := Nat.lt_of_lt_of_le hwz4 hb5.size
           have hWS := Lib.hid (WriteString_k w.heap.size w.heap.size _ v _ HI5.out (by rw [Lib.byteCells_length, size_eq]; omega) (by omega))
           clear hb5 HI4 HPB4
           go_wp2_with (first | (go_at_call 62; refine (HH.out _).mono ?_; rintro e w6 ⟨rfl, rfl⟩) | (go_at_call 60; refine hWS.out.mono ?_; rintro e w6 ⟨rfl, h6, hb6, ho6⟩))
           have HI6 := Lib.hid (fin.out w6 h6)
           have HPB6 := Lib.hid (pieces_kept HPB5.out ho6 hne)
           have HB6 := Lib.hid (HB5.out.trans hb6)
           have hwz6 : w.heap.size < w6.heap.size := Nat.lt_of_lt_of_le hwz5 hb6.size
           clear h6 hb6 ho6 hWS
           go_wp2
           go_roundw
           case rel => exact ⟨k + 1, _, by omega, by go_num, HPB6, HI6, HB6, hwz6, Lib.hid HR2.out.symm, by omega⟩
           case measure => simp [RowKit.intOf]; omega
          ·have HP2 := Lib.hid (hbad (by rw [hip, hsl]; simp))
           rw [hsl] at HH
           clear hkd HR1 hbad hfine hip hkk
           go_wp2_with fail
           refine HS1.out.mono ?_
           rintro e w5 ⟨SA, sc, rfl, _, hb5⟩
           have HB5 := Lib.hid (HB4.out.trans (hb5.mono HB4.out.size))
           clear hb5
           go_wp2_with (go_at_call 62; refine (HH.out _).mono ?_; rintro e w6 ⟨rfl, rfl⟩)
           go_ret2
           exact gives_path (by rw [HP.out, HP2.out]; rfl) HB5.out
      ·have hkk : bt g 0 ≠ 58 := by rw [h42]; decide
       have c58 : (bt g 0 == 58) = false := by simpa using hkk
       have d58 : (bt g 0 != 58) = true := by simpa using hkk
       have c42 : (bt g 0 == 42) = true := by rw [h42]; rfl
       have d42 : (bt g 0 != 42) = false := by rw [h42]; rfl
       clear h42
       go_wp2_with fail
       rw [HNM.out]
       refine HVV.out.mono ?_
       rintro e w4 ⟨rfl, hb4⟩
       have HI4 := Lib.hid (builder_below HI3.out hb4)
       have HPB4 := Lib.hid ((hb4.block pb (Array.getElem?_eq_some_iff.1 HPB3.out).1).trans HPB3.out)
       have HB4 := Lib.hid (HB3.out.trans (hb4.mono HB3.out.size))
       have HX4 := Lib.hid hb4
       have hwz4 : w.heap.size < w4.heap.size := Nat.lt_of_lt_of_le hwz3 hb4.size
       clear hb4 HVV HI3 HPB3
       cases o with
       | none =>
        have HP2 := Lib.hid (show R = none from by rw [← HR1.out]; exact go_none hkd HO.out)
        have HS1 := Lib.hid (HSG.out w4 HX4.out ((⟨#[47]⟩ : ByteArray) ++ (⟨#[]⟩ : ByteArray)) (by decide))
        clear hkd HR1 hkk
        dsimp only [valV]
        go_wp2_with fail
        refine HS1.out.mono ?_
        rintro e w5 ⟨SA, sc, rfl, _, hb5⟩
        have HB5 := Lib.hid (HB4.out.trans (hb5.mono HB4.out.size))
        clear hb5
        go_wp2
        go_ret2
        exact gives_path (by rw [HP.out, HP2.out]; rfl) HB5.out
       | some v =>
        have hvz := HVZ.out _ _ HO.out
        have hno : ¬ 9223372036854775807 < 1 + v.size := by omega
        have h1v : ((⟨#[47]⟩ : ByteArray) ++ v).size = 1 + v.size := by rw [ByteArray.size_append]; rfl
        have HS1 := Lib.hid (HSG.out w4 HX4.out ((⟨#[47]⟩ : ByteArray) ++ v) (by omega))
        have hbad := @go_bad (valOf vs) (pcsFrom gs (k + 1)) (kd, nm) (acc) v hkd HO.out
        have hfine := @go_fine (valOf vs) (pcsFrom gs (k + 1)) (kd, nm) (acc) v hkd HO.out
        rw [HR1.out] at hbad hfine
        unfold badV at hbad hfine
        dsimp only at hbad hfine
        rw [HKQ.out, decide_eq_false hkk] at hbad hfine
        dsimp only [valV]
        cases hip : isPathB ((⟨#[47]⟩ : ByteArray) ++ v)
        ·have HP2 := Lib.hid (hbad (by rw [hip]; rfl))
         rw [segR_no hip] at HS1
         clear hkd HR1 hbad hfine hip hkk
         go_wp2_with fail
         refine HS1.out.mono ?_
         rintro e w5 ⟨SA, sc, rfl, _, hb5⟩
         have HB5 := Lib.hid (HB4.out.trans (hb5.mono HB4.out.size))
         clear hb5
         go_wp2
         go_ret2
         exact gives_path (by rw [HP.out, HP2.out]; rfl) HB5.out
        ·rw [segR_yes hip] at HS1
         have fin : Hid (∀ (w6 : World), Lib.BuilderAtF 122 5 w.heap.size w.heap.size (.pointer (some ⟨w.heap.size, 0, none⟩)) (Lib.byteCells (acc ++ (⟨#[47]⟩ : ByteArray)).data.toList ++ Lib.strCells v) w6 → Lib.IsBuilderF 122 5 w.heap.size w.heap.size (Lib.byteCells (acc ++ ((⟨#[47]⟩ : ByteArray) ++ v)).data.toList) w6) := Lib.hid (fun w6 h6 => .inr (by rw [← acc_two, ← bytes_of]; exact h6))
         have hag := acc_grow acc v
         have HR2 := Lib.hid (hfine (by rw [hip]; rfl))
         clear hkd HR1 hbad hfine hip hkk
         go_wp2_with fail
         refine HS1.out.mono ?_
         rintro e w5 ⟨SA, sc, rfl, _, hb5⟩
         have HI5 := Lib.hid (builder_below HI4.out hb5)
         have HPB5 := Lib.hid ((hb5.block pb (Array.getElem?_eq_some_iff.1 HPB4.out).1).trans HPB4.out)
         have HB5 := Lib.hid (HB4.out.trans (hb5.mono HB4.out.size))
         have hwz5 : w.heap.size < w5.heap.size := Nat.lt_of_lt_of_le hwz4 hb5.size
         have hWS := Lib.hid (WriteString_k w.heap.size w.heap.size _ v _ HI5.out (by rw [Lib.byteCells_length, size_eq]; omega) (by omega))
         clear hb5 HI4 HPB4
         go_wp2_with fail
         refine hWS.out.mono ?_
         rintro e w6 ⟨rfl, h6, hb6, ho6⟩
         have HI6 := Lib.hid (fin.out w6 h6)
         have HPB6 := Lib.hid (pieces_kept HPB5.out ho6 hne)
         have HB6 := Lib.hid (HB5.out.trans hb6)
         have hwz6 : w.heap.size < w6.heap.size := Nat.lt_of_lt_of_le hwz5 hb6.size
         clear h6 hb6 ho6 hWS
         go_wp2
         go_roundw
         case rel => exact ⟨k + 1, _, by omega, by go_num, HPB6, HI6, HB6, hwz6, Lib.hid HR2.out.symm, by omega⟩
         case measure => simp [RowKit.intOf]; omega
    ·obtain rfl : k = gs.length := by omega
     have hR := HR.out
     rw [pcs_end] at hR
     have HR2 := Lib.hid (show R = some acc from hR.symm)
     clear hR HR
     go_wp2_with fail
     refine (Tryz.Builder_String_any_k w.heap.size w.heap.size acc.data.toList _ HI.out (by omega)).mono ?_
     rintro e w4 ⟨rfl, _, hb4, _⟩
     have HB4 := Lib.hid (HB.out.trans hb4)
     rw [ba_eta]
     clear hb4
     go_wp2
     go_ret2
     exact gives_path (by rw [HP.out, HR2.out]; rfl) HB4.out
set_option maxRecDepth 100000 in
set_option maxHeartbeats 8000000 in
theorem rtRPath_any (A : Option Addr) (c : Nat) (ls : List Rv) (VA : Option Addr) (vc : Nat) (vs : List Pr) (i : Int) (w : World) (hr : Row w A (flatR ls)) (hgl : GoodL (plR ls)) (hv : Row w VA (flat3 vs)) (hvl : vs.length ≤ 1048576) (hvz : ∀ x ∈ vs, x.2.1.size ≤ 1048576) :
  Calls Tryz.prog 29 #[.slice A ls.length c, .int .i64 i, .slice VA vs.length vc] w fun e w' => e = .returned (.tuple #[.string (pathP (plR ls) i vs).1, .int .i64 (pathP (plR ls) i vs).2]) ∧ Below w.heap.size w w' := by
 have hrl : (plR ls).length = ls.length := plR_length ls
 by_cases hi0 : i < 0
 ·have HP := Lib.hid (pathP_out (l := plR ls) (vs := vs) (.inl hi0))
  clear hr hgl hv hrl
  go_enter Tryz.func29, Tryz.ntmps29
  go_wp2
  go_ret2
  exact gives_path HP.out (Below.refl _ _)
 ·by_cases hil : (ls.length : Int) ≤ i
  ·have HP := Lib.hid (pathP_out (l := plR ls) (vs := vs) (.inr (by rw [hrl]; exact hil)))
   clear hr hgl hv hrl
   go_enter Tryz.func29, Tryz.ntmps29
   go_wp2
   go_ret2
   exact gives_path HP.out (Below.refl _ _)
  ·obtain ⟨k0, rfl⟩ : ∃ k : Nat, i = (k : Int) := ⟨i.toNat, by omega⟩
   have hkr : k0 < ls.length := by omega
   obtain ⟨x, hx⟩ := some_of_lt hkr
   have hpx : (plR ls)[k0]? = some x.2 := plR_get hx
   have hP0 := pathP_in (vs := vs) hpx
   have hgood := chk_split (wrong_chk (hgl.one _ (List.mem_of_getElem? hpx)))
   obtain ⟨_, _, _, _, hpz, _, _, hp0, _⟩ := split_wf hgood
   obtain ⟨b, off, hA, hb, _, f1⟩ := hr.rv hx
   have HVA := Lib.hid (fun (W : World) (hh : Below w.heap.size w W) (s : ByteArray) => rvalue_any VA vc vs s W (hv.below hh) (by omega))
   have HSP := Lib.hid (rSplit_any x.2.2 w (by omega))
   have hgl := splitC_len (x.2.2.extract 1 x.2.2.size) 47
   have hgz := fun g => @splitC_size (x.2.2.extract 1 x.2.2.size) 47 g
   rw [segs_of hp0] at hP0 HSP
   have hez : (x.2.2.extract 1 x.2.2.size).size ≤ 1024 := by rw [ByteArray.size_extract]; omega
   generalize x.2.2 = p at *
   generalize splitC (p.extract 1 p.size) 47 = gs at *
   have HGZ := Lib.hid (show ∀ g ∈ gs, g.size ≤ 1024 from fun g hm => Nat.le_trans (hgz g hm) hez)
   have hgl2 : gs.length ≤ 1025 := by omega
   have HVZ := Lib.hid (show ∀ (s v : ByteArray), valOf vs s = some v → v.size ≤ 1048576 from fun s v hh => by
    obtain ⟨x, hx, _, rfl⟩ := valOf_mem hh
    exact hvz x hx)
   obtain ⟨R, hR⟩ : ∃ R, pathGo (valOf vs) (pcsFrom gs 0) ⟨#[]⟩ = R := ⟨_, rfl⟩
   have hP1 : pathP (plR ls) (k0 : Int) vs = pathOut R := by rw [hP0, ← hR]; rfl
   have HP := Lib.hid hP1
   have HR := Lib.hid hR
   have hkI : ¬ (ls.length : Int) ≤ (k0 : Int) := by omega
   have hkJ : (k0 : Int) < (ls.length : Int) := by omega
   subst hA
   clear hv hrl hil hi0 hpx hP0 hgood hx hgz hgl hez hvz hR hP1 hr
   go_enter Tryz.func29, Tryz.ntmps29
   go_wp2_with fail
   refine HSP.out.mono ?_
   rintro e w1 ⟨SA, sc, rfl, hos, hb1⟩
   have HRS := Lib.hid (own_row hos)
   have HB1 := Lib.hid hb1
   clear hos hb1 f1 hb HSP
   go_wp2
   go_loopw [8, 28] (fun o i wr => ∃ (k : Nat) (acc : ByteArray), k ≤ gs.length ∧ o = .string acc ∧ i = .int .i64 k ∧ Hid (Below w1.heap.size w1 wr) ∧ Hid (pathGo (valOf vs) (pcsFrom gs k) acc = R) ∧ acc.size ≤ k * 1048578) (fun _ i _ => gs.length - (RowKit.intOf i).toNat)
   case atStart => exact ⟨0, ⟨#[]⟩, by omega, rfl, rfl, Lib.hid (Below.refl _ _), HR, by decide⟩
   case round =>
    clear HR
    obtain ⟨k, acc, hk, rfl, rfl, HBX, HR, hacc⟩ := hrel
    have HB := Lib.hid (HB1.out.trans (HBX.out.mono HB1.out.size))
    by_cases hlt : k < gs.length
    ·obtain ⟨g, hgk⟩ := some_of_lt hlt
     obtain ⟨b2, off2, rfl, hb2, hpc⟩ := (HRS.out.below HBX.out).str hgk
     have hgz := HGZ.out g (List.mem_of_getElem? hgk)
     have hki : (k : Int) < (gs.length : Int) := by omega
     have HGK := Lib.hid hgk
     have hst := pcs_step hgk
     have hR := HR.out
     rw [hst] at hR
     have ha1 : (acc ++ (⟨#[47]⟩ : ByteArray)).size = acc.size + 1 := by rw [ByteArray.size_append]; rfl
     have hn1 : ¬ 9223372036854775807 < acc.size + 1 := by omega
     have hn2 : ¬ 9223372036854775807 < (acc ++ (⟨#[47]⟩ : ByteArray)).size + g.size := by omega
     clear hgk hst
     by_cases hst : g.size = 0 ∨ (bt g 0 ≠ 58 ∧ bt g 0 ≠ 42)
     ·rw [pc_static hst, go_static, ← acc_two] at hR
      have HR2 := Lib.hid hR
      have ha2 : ((acc ++ (⟨#[47]⟩ : ByteArray)) ++ g).size = (acc ++ (⟨#[47]⟩ : ByteArray)).size + g.size := ByteArray.size_append
      by_cases hg0 : g.size = 0
      ·have hge : g.toList.isEmpty = true := by rw [empty_eq]; exact decide_eq_true hg0
       have hge2 : (g.toList == ([] : List UInt8)) = true := by
        rw [emp_test]
        exact decide_eq_true (ba_nil hg0)
       clear hst hR
       go_wp2
       go_roundw
       case rel => exact ⟨k + 1, _, by omega, rfl, by go_num, HBX, HR2, by rw [ha2, ha1]; omega⟩
       case measure => simp [RowKit.intOf]; omega
      ·have hgp : 0 < g.size := by omega
       have hne2 : g.toList.isEmpty = false := by rw [empty_eq]; exact decide_eq_false hg0
       have hge2 : (g.toList == ([] : List UInt8)) = false := empty_test hgp
       obtain ⟨h58, h42⟩ := hst.resolve_left hg0
       have hbt := @bt_eq g 0 hgp
       have hg1 : (0 : Int) < (g.size : Int) := by omega
       have c58 : (bt g 0 == 58) = false := by simpa using h58
       have c42 : (bt g 0 == 42) = false := by simpa using h42
       have d58 : (bt g 0 != 58) = true := by simpa using h58
       have d42 : (bt g 0 != 42) = true := by simpa using h42
       clear hst hR h58 h42
       go_wp2
       go_roundw
       case rel => exact ⟨k + 1, _, by omega, rfl, by go_num, HBX, HR2, by rw [ha2, ha1]; omega⟩
       case measure => simp [RowKit.intOf]; omega
     ·have hgp : 0 < g.size := by
       rcases Nat.eq_zero_or_pos g.size with h | h
       ·exact absurd (.inl h) hst
       ·exact h
      have hkind : bt g 0 = 58 ∨ bt g 0 = 42 := by
       rcases Classical.em (bt g 0 = 58) with h | h
       ·exact .inl h
       ·rcases Classical.em (bt g 0 = 42) with h2 | h2
        ·exact .inr h2
        ·exact absurd (.inr ⟨h, h2⟩) hst
      obtain ⟨kd, hkd, hpc2, hkq⟩ : ∃ kd : Int, kd ≠ 0 ∧ pcOf g = (kd, g.extract 1 g.size) ∧ decide (kd = 1) = decide (bt g 0 = 58) := by
       rcases hkind with e | e
       ·exact ⟨1, by decide, pc_par hgp e, by rw [e]; rfl⟩
       ·exact ⟨2, by decide, pc_rest hgp e, by rw [e]; rfl⟩
      rw [hpc2] at hR
      have hne2 : g.toList.isEmpty = false := by rw [empty_eq]; exact decide_eq_false (by omega)
      have hge2 : (g.toList == ([] : List UInt8)) = false := empty_test hgp
      have hbt := @bt_eq g 0 hgp
      have hg1 : (0 : Int) < (g.size : Int) := by omega
      have hg2 : (1 : Int) ≤ (g.size : Int) := by omega
      have HR1 := Lib.hid hR
      have HKQ := Lib.hid hkq
      have HVV0 := HVA.out wr HB.out (g.extract 1 g.size)
      obtain ⟨nm, hnm⟩ : ∃ nm, g.extract 1 g.size = nm := ⟨_, rfl⟩
      rw [hnm] at HVV0 HR1
      obtain ⟨o, ho⟩ : ∃ o, valOf vs nm = o := ⟨_, rfl⟩
      rw [ho] at HVV0
      have HVV := Lib.hid HVV0
      have HO := Lib.hid ho
      have HNM := Lib.hid hnm
      clear hst hR hpc2 hkq ho HVV0 hnm
      rcases hkind with h58 | h42
      ·have hkk := h58
       have c58 : (bt g 0 == 58) = true := by rw [h58]; rfl
       have d58 : (bt g 0 != 58) = false := by rw [h58]; rfl
       clear h58
       go_wp2_with fail
       rw [HNM.out]
       refine HVV.out.mono ?_
       rintro e w4 ⟨rfl, hb4⟩
       have HX4 := Lib.hid (HBX.out.trans (hb4.mono HBX.out.size))
       have HB4 := Lib.hid (HB.out.trans (hb4.mono HB.out.size))
       clear hb4 HVV
       cases o with
       | none =>
        have HP2 := Lib.hid (show R = none from by rw [← HR1.out]; exact go_none hkd HO.out)
        clear hkd HR1 hkk
        dsimp only [valV]
        go_wp2
        go_ret2
        exact gives_path (by rw [HP.out, HP2.out]; rfl) HB4.out
       | some v =>
        have hvz := HVZ.out _ _ HO.out
        have hno : ¬ 9223372036854775807 < 1 + v.size := by omega
        have h1v : ((⟨#[47]⟩ : ByteArray) ++ v).size = 1 + v.size := by rw [ByteArray.size_append]; rfl
        have HIP := Lib.hid (fun (W : World) => rIsPath_any ((⟨#[47]⟩ : ByteArray) ++ v) W (by omega))
        have hbad := @go_bad (valOf vs) (pcsFrom gs (k + 1)) (kd, nm) (acc) v hkd HO.out
        have hfine := @go_fine (valOf vs) (pcsFrom gs (k + 1)) (kd, nm) (acc) v hkd HO.out
        rw [HR1.out] at hbad hfine
        unfold badV at hbad hfine
        dsimp only at hbad hfine
        rw [HKQ.out, decide_eq_true hkk] at hbad hfine
        rw [← acc_two] at hfine
        dsimp only [valV]
        have ha2 : ((acc ++ (⟨#[47]⟩ : ByteArray)) ++ v).size = (acc ++ (⟨#[47]⟩ : ByteArray)).size + v.size := ByteArray.size_append
        have hno2 : ¬ 9223372036854775807 < (acc ++ (⟨#[47]⟩ : ByteArray)).size + v.size := by omega
        cases hip : isPathB ((⟨#[47]⟩ : ByteArray) ++ v)
        ·have HP2 := Lib.hid (hbad (by rw [hip]; rfl))
         rw [hip] at HIP
         clear hkd HR1 hbad hfine hip hkk
         go_wp2_with (first | (go_at_call 53; refine (HIP.out _).mono ?_; rintro e w5 ⟨rfl, rfl⟩))
         go_ret2
         exact gives_path (by rw [HP.out, HP2.out]; rfl) HB4.out
        ·rw [hip] at HIP
         by_cases hv0 : v.size = 0
         ·have hve : v.toList.isEmpty = true := by rw [empty_eq]; exact decide_eq_true hv0
          have hve2 : (v.toList == ([] : List UInt8)) = true := by
           rw [emp_test]
           exact decide_eq_true (ba_nil hv0)
          have HP2 := Lib.hid (hbad (by rw [hip, decide_eq_true hv0]; rfl))
          clear hkd HR1 hbad hfine hip hkk
          go_wp2_with (first | (go_at_call 53; refine (HIP.out _).mono ?_; rintro e w5 ⟨rfl, rfl⟩))
          go_ret2
          exact gives_path (by rw [HP.out, HP2.out]; rfl) HB4.out
         ·have hve : v.toList.isEmpty = false := by rw [empty_eq]; exact decide_eq_false hv0
          have hve2 : (v.toList == ([] : List UInt8)) = false := empty_test (by omega)
          have HH := Lib.hid (fun W => rhas_any v W (by omega))
          cases hsl : hasSl v
          ·have HR2 := Lib.hid (hfine (by rw [hip, decide_eq_false hv0, hsl]; rfl))
           rw [hsl] at HH
           clear hkd HR1 hbad hfine hip hkk
           go_wp2_with (first | (go_at_call 53; refine (HIP.out _).mono ?_; rintro e w5 ⟨rfl, rfl⟩) | (go_at_call 66; refine (HH.out _).mono ?_; rintro e w6 ⟨rfl, rfl⟩))
           go_roundw
           case rel => exact ⟨k + 1, _, by omega, rfl, by go_num, HX4, Lib.hid HR2.out.symm, by rw [ha2, ha1]; omega⟩
           case measure => simp [RowKit.intOf]; omega
          ·have HP2 := Lib.hid (hbad (by rw [hip, hsl]; simp))
           rw [hsl] at HH
           clear hkd HR1 hbad hfine hip hkk
           go_wp2_with (first | (go_at_call 53; refine (HIP.out _).mono ?_; rintro e w5 ⟨rfl, rfl⟩) | (go_at_call 66; refine (HH.out _).mono ?_; rintro e w6 ⟨rfl, rfl⟩))
           go_ret2
           exact gives_path (by rw [HP.out, HP2.out]; rfl) HB4.out
      ·have hkk : bt g 0 ≠ 58 := by rw [h42]; decide
       have c58 : (bt g 0 == 58) = false := by simpa using hkk
       have d58 : (bt g 0 != 58) = true := by simpa using hkk
       have c42 : (bt g 0 == 42) = true := by rw [h42]; rfl
       have d42 : (bt g 0 != 42) = false := by rw [h42]; rfl
       clear h42
       go_wp2_with fail
       rw [HNM.out]
       refine HVV.out.mono ?_
       rintro e w4 ⟨rfl, hb4⟩
       have HX4 := Lib.hid (HBX.out.trans (hb4.mono HBX.out.size))
       have HB4 := Lib.hid (HB.out.trans (hb4.mono HB.out.size))
       clear hb4 HVV
       cases o with
       | none =>
        have HP2 := Lib.hid (show R = none from by rw [← HR1.out]; exact go_none hkd HO.out)
        clear hkd HR1 hkk
        dsimp only [valV]
        go_wp2
        go_ret2
        exact gives_path (by rw [HP.out, HP2.out]; rfl) HB4.out
       | some v =>
        have hvz := HVZ.out _ _ HO.out
        have hno : ¬ 9223372036854775807 < 1 + v.size := by omega
        have h1v : ((⟨#[47]⟩ : ByteArray) ++ v).size = 1 + v.size := by rw [ByteArray.size_append]; rfl
        have HIP := Lib.hid (fun (W : World) => rIsPath_any ((⟨#[47]⟩ : ByteArray) ++ v) W (by omega))
        have hbad := @go_bad (valOf vs) (pcsFrom gs (k + 1)) (kd, nm) (acc) v hkd HO.out
        have hfine := @go_fine (valOf vs) (pcsFrom gs (k + 1)) (kd, nm) (acc) v hkd HO.out
        rw [HR1.out] at hbad hfine
        unfold badV at hbad hfine
        dsimp only at hbad hfine
        rw [HKQ.out, decide_eq_false hkk] at hbad hfine
        rw [← acc_two] at hfine
        dsimp only [valV]
        have ha2 : ((acc ++ (⟨#[47]⟩ : ByteArray)) ++ v).size = (acc ++ (⟨#[47]⟩ : ByteArray)).size + v.size := ByteArray.size_append
        have hno2 : ¬ 9223372036854775807 < (acc ++ (⟨#[47]⟩ : ByteArray)).size + v.size := by omega
        cases hip : isPathB ((⟨#[47]⟩ : ByteArray) ++ v)
        ·have HP2 := Lib.hid (hbad (by rw [hip]; rfl))
         rw [hip] at HIP
         clear hkd HR1 hbad hfine hip hkk
         go_wp2_with (first | (go_at_call 53; refine (HIP.out _).mono ?_; rintro e w5 ⟨rfl, rfl⟩))
         go_ret2
         exact gives_path (by rw [HP.out, HP2.out]; rfl) HB4.out
        ·rw [hip] at HIP
         have HR2 := Lib.hid (hfine (by rw [hip]; rfl))
         clear hkd HR1 hbad hfine hip hkk
         go_wp2_with (first | (go_at_call 53; refine (HIP.out _).mono ?_; rintro e w5 ⟨rfl, rfl⟩))
         go_roundw
         case rel => exact ⟨k + 1, _, by omega, rfl, by go_num, HX4, Lib.hid HR2.out.symm, by rw [ha2, ha1]; omega⟩
         case measure => simp [RowKit.intOf]; omega
    ·obtain rfl : k = gs.length := by omega
     have hR := HR.out
     rw [pcs_end] at hR
     have HR2 := Lib.hid (show R = some acc from hR.symm)
     clear hR HR
     go_wp2
     go_ret2
     exact gives_path (by rw [HP.out, HR2.out]; rfl) HB.out
def bulkV (l : List Pr) : Nat := (l.map fun p => p.1.size + p.2.1.size + 4).sum
theorem bulkV_mem {l : List Pr} {p : Pr} (h : p ∈ l) : p.1.size + p.2.1.size + 4 ≤ bulkV l := by
 induction l with
 | nil => cases h
 | cons q l ih =>
  have e : bulkV (q :: l) = q.1.size + q.2.1.size + 4 + bulkV l := by simp [bulkV]
  rw [e]
  rcases List.mem_cons.1 h with rfl | h
  ·omega
  ·have := ih h
   omega
theorem bulkV_len (l : List Pr) : l.length ≤ bulkV l := by
 induction l with
 | nil => exact Nat.le_refl _
 | cons q l ih =>
  have e : bulkV (q :: l) = q.1.size + q.2.1.size + 4 + bulkV l := by simp [bulkV]
  rw [e, List.length_cons]
  omega
end Go.Proofs.YtiohmnhbmmhnhaaGreatDoor
