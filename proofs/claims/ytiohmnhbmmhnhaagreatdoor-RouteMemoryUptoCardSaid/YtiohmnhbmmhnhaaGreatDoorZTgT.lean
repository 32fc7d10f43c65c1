/-
 TgT, without what this claim does not reach.
-/
import Derived.Test.YtiohmnhbmmhnhaaGreatDoorZTgH
namespace Go.Proofs.YtiohmnhbmmhnhaaGreatDoor
structure Tg where
 form : Int
 host : ByteArray
 port : Int
 path : ByteArray
 query : ByteArray
 hasq : Bool
def slashT : ByteArray := ⟨#[47]⟩
def Tg.laid (t : Tg) (p q : ByteArray) (h : Bool) : Tg := { t with path := if p.size = 0 then slashT else p, query := q, hasq := h }
theorem tri_cut {r : ByteArray} {k i : Nat} (hp : place r 63 = k) (hi : i < k) : tri (r.extract 0 k) i = tri r i := by
 have hk := place_le r 63
 rw [hp] at hk
 have hz := ext_size r (a := 0) (b := k) (by omega) hk
 have hb : ∀ j, j < k → bt (r.extract 0 k) j = bt r j := fun j hj => by
  have := ext_bt r (a := 0) (b := k) (j := j) (by omega)
  rwa [Nat.zero_add] at this
 by_cases h2 : i + 2 < k
 ·unfold tri
  rw [hz, hb i hi, hb (i + 1) (by omega), hb (i + 2) h2, decide_eq_true (show i + 2 < k - 0 by omega), decide_eq_true (show i + 2 < r.size by omega)]
 ·rw [tri_short (by omega)]
  rcases place_spec r 63 with ⟨h, _⟩ | ⟨q, h, hq, hb63, _⟩
  ·rw [tri_short (by omega)]
  ·rw [hp] at h
   subst h
   have hx : digV 63 < 0 := by decide
   by_cases h1 : k = i + 1
   ·rw [tri_one (by rw [← h1, hb63]; exact hx)]
   ·rw [tri_two (by rw [show i + 2 = k by omega, hb63]; exact hx)]
theorem stop_cut {P : Int → Bool} (h63 : P 63 = false) {r : ByteArray} {k : Nat} (hp : place r 63 = k) : ∀ (n i : Nat), k - i ≤ n → i ≤ k → stopF P (r.extract 0 k) i = stopF P r i
 | n, i, hn, hi => by
  have hk := place_le r 63
  rw [hp] at hk
  have hz := ext_size r (a := 0) (b := k) (by omega) hk
  by_cases e : i = k
  ·subst e
   rw [stopF_end (by omega)]
   rcases place_spec r 63 with ⟨h, _⟩ | ⟨q, h, hq, hb63, _⟩
   ·rw [stopF_end (by omega)]
   ·rw [hp] at h
    subst h
    rw [stopF_stop hq (tri_other (by omega)) (by rw [hb63]; exact h63)]
  ·have hb : bt (r.extract 0 k) i = bt r i := by
    have := ext_bt r (a := 0) (b := k) (j := i) (by omega)
    rwa [Nat.zero_add] at this
   rw [stopF_step (by omega), stopF_step (show i < r.size by omega), tri_cut hp (by omega), hb]
   match n, hn with
   | 0, hn => omega
   | n + 1, hn =>
    split
    ·rename_i ht
     have h3 := (tri_iff.1 ((tri_cut hp (show i < k by omega)).trans ht)).1
     rw [stop_cut h63 hp n (i + 3) (by omega) (by omega)]
    ·split
     ·rw [stop_cut h63 hp n (i + 1) (by omega) (by omega)]
     ·rfl
theorem path_63 : pathSign 63 = false := by decide +kernel
theorem path_cut (r : ByteArray) : pathStop (cutW r 63).1 = pathStop r ∧ pathStop r ≤ place r 63 ∧ (pathStop r < place r 63 → bt (cutW r 63).1 (pathStop r) = bt r (pathStop r)) := by
 rcases place_spec r 63 with ⟨h, _⟩ | ⟨k, h, hk, hb, _⟩
 ·rw [cutW_miss h, h]
  exact ⟨rfl, stopF_le _ _, fun _ => rfl⟩
 ·rw [cutW_hit hk h, h]
  have e : pathStop (r.extract 0 k) = pathStop r := stop_cut path_63 h k 0 (by omega) (by omega)
  have hle := stopF_le pathSign (r.extract 0 k)
  have hz := ext_size r (a := 0) (b := k) (by omega) (by omega)
  change pathStop (r.extract 0 k) ≤ _ at hle
  refine ⟨e, by omega, fun hlt => ?_⟩
  show bt (r.extract 0 k) _ = _
  have := ext_bt r (a := 0) (b := k) (j := pathStop r) (by omega)
  rwa [Nat.zero_add] at this
end Go.Proofs.YtiohmnhbmmhnhaaGreatDoor
