/-
  Plain words on request targets: reading them, and the reference's way to read a path and a query.
-/
import Derived.Test.YtiohmnhbmmhnhaaGreatDoorTgH
namespace Go.Proofs.YtiohmnhbmmhnhaaGreatDoor

/-- A target. -/
structure Tg where
  form : Int
  host : ByteArray
  port : Int
  path : ByteArray
  query : ByteArray
  hasq : Bool
theorem Tg.ext_of {a b : Tg} (h1 : a.form = b.form) (h2 : a.host = b.host) (h3 : a.port = b.port) (h4 : a.path = b.path) (h5 : a.query = b.query) (h6 : a.hasq = b.hasq) : a = b := by
  cases a; cases b; simp_all
def noTg : Tg := ⟨0, ⟨#[]⟩, 0, ⟨#[]⟩, ⟨#[]⟩, false⟩
def slashT : ByteArray := ⟨#[47]⟩
def Tg.laid (t : Tg) (p q : ByteArray) (h : Bool) : Tg := { t with path := if p.size = 0 then slashT else p, query := q, hasq := h }

/-- Path and query from a place on: the place where the path ends, and where the query ends. -/
def endP (s : ByteArray) (i : Nat) : Nat := i + pathStop (s.extract i s.size)
def endQ (s : ByteArray) (i : Nat) : Nat := i + queryStop (s.extract i s.size)
theorem endP_range {s : ByteArray} {i : Nat} (h : i ≤ s.size) : i ≤ endP s i ∧ endP s i ≤ s.size := by
  have := stopF_le pathSign (s.extract i s.size)
  rw [ext_size s h (Nat.le_refl _)] at this
  unfold endP pathStop
  omega
theorem endQ_range {s : ByteArray} {i : Nat} (h : i ≤ s.size) : i ≤ endQ s i ∧ endQ s i ≤ s.size := by
  have := stopF_le querySign (s.extract i s.size)
  rw [ext_size s h (Nat.le_refl _)] at this
  unfold endQ queryStop
  omega
def behindR (t : Tg) (s : ByteArray) (i : Nat) : Tg × Nat × Int :=
  if endP s i = s.size then (t.laid (s.extract i (endP s i)) ⟨#[]⟩ false, 0, 0)
  else if bt s (endP s i) = 63 then
    (if endQ s (endP s i + 1) < s.size then (noTg, endQ s (endP s i + 1), wrongE s (endQ s (endP s i + 1)) 54)
    else (t.laid (s.extract i (endP s i)) (s.extract (endP s i + 1) s.size) true, 0, 0))
  else (noTg, endP s i, wrongE s (endP s i) 53)

/-- The first of two bytes. -/
def endA (s : ByteArray) (i : Nat) : Nat := scan (fun j => !(decide (bt s j = 47) || decide (bt s j = 63))) i (s.size - i)
theorem endA_spec {s : ByteArray} {i : Nat} (h : i ≤ s.size) : i ≤ endA s i ∧ endA s i ≤ s.size ∧ (∀ j, i ≤ j → j < endA s i → bt s j ≠ 47 ∧ bt s j ≠ 63) ∧ (endA s i < s.size → bt s (endA s i) = 47 ∨ bt s (endA s i) = 63) := by
  obtain ⟨h1, h2, h3, h4⟩ := scan_spec (fun j => !(decide (bt s j = 47) || decide (bt s j = 63))) (s.size - i) i
  refine ⟨h1, by unfold endA; omega, fun j hj hk => ?_, fun hlt => ?_⟩
  · have := h3 j hj hk
    simp at this
    exact this
  · have := h4 (by unfold endA at hlt; omega)
    rw [Bool.not_eq_false', Bool.or_eq_true, decide_eq_true_eq, decide_eq_true_eq] at this
    exact this
theorem endA_at {s : ByteArray} {i k : Nat} (h1 : i ≤ k) (h2 : k < s.size) (hn : ∀ j, i ≤ j → j < k → bt s j ≠ 47 ∧ bt s j ≠ 63) (hb : bt s k = 47 ∨ bt s k = 63) : endA s i = k :=
  scan_stop (fun j g1 g2 => by have := hn j g1 g2; simp [this.1, this.2]) h1 (by omega) (by rw [Bool.not_eq_false', Bool.or_eq_true, decide_eq_true_eq, decide_eq_true_eq]; exact hb)
theorem endA_none {s : ByteArray} {i : Nat} (h : i ≤ s.size) (hn : ∀ j, i ≤ j → j < s.size → bt s j ≠ 47 ∧ bt s j ≠ 63) : endA s i = s.size := by
  have := scan_all (P := fun j => !(decide (bt s j = 47) || decide (bt s j = 63))) (a := i) (n := s.size - i) (fun j g1 g2 => by have := hn j g1 (by omega); simp [this.1, this.2])
  unfold endA
  rw [this]
  omega
def httpT : ByteArray := ⟨#[104, 116, 116, 112, 58, 47, 47]⟩
def connT : ByteArray := ⟨#[67, 79, 78, 78, 69, 67, 84]⟩
def optT : ByteArray := ⟨#[79, 80, 84, 73, 79, 78, 83]⟩
def getT : ByteArray := ⟨#[71, 69, 84]⟩
def starT : ByteArray := ⟨#[42]⟩
theorem http_lower : lower httpT = httpT := by decide +kernel
def absR (s : ByteArray) : Tg × Nat × Int :=
  if (authR (s.extract 7 (endA s 7))).2.2 = 0 then behindR ⟨2, (authR (s.extract 7 (endA s 7))).1, (authR (s.extract 7 (endA s 7))).2.1, ⟨#[]⟩, ⟨#[]⟩, false⟩ s (endA s 7) else (noTg, 7, 52)
def connR (s : ByteArray) : Tg × Nat × Int :=
  if (authR s).2.2 = 0 ∧ 0 ≤ (authR s).2.1 then (⟨3, (authR s).1, (authR s).2.1, ⟨#[]⟩, ⟨#[]⟩, false⟩, 0, 0) else (noTg, 0, 52)
def parseT (m s : ByteArray) : Tg × Nat × Int :=
  if s.size = 0 then (noTg, 0, 50)
  else if m = connT then connR s
  else if bt s 0 = 47 then behindR ⟨1, ⟨#[]⟩, -1, ⟨#[]⟩, ⟨#[]⟩, false⟩ s 0
  else if s = starT ∧ m = optT then (⟨4, ⟨#[]⟩, -1, ⟨#[]⟩, ⟨#[]⟩, false⟩, 0, 0)
  else if s.size < 7 ∨ lower (s.extract 0 7) ≠ httpT then (noTg, 0, 50)
  else absR s
theorem authR_err (s : ByteArray) : (authR s).2.2 = 0 ∨ authR s = authBad := by
  have hp : ∀ h p, (portR h p).2.2 = 0 ∨ portR h p = authBad := by
    intro h p
    unfold portR
    split
    · exact .inr rfl
    · split
      · exact .inl rfl
      · split
        · exact .inl rfl
        · exact .inr rfl
  unfold authR
  split
  · split
    · split
      · split
        · exact .inl rfl
        · split
          · exact hp _ _
          · exact .inr rfl
      · exact .inr rfl
    · exact .inr rfl
  · split
    · exact hp _ _
    · exact .inr rfl

/-- A text up to its first question mark. -/
theorem tri_cut {r : ByteArray} {k i : Nat} (hp : place r 63 = k) (hi : i < k) : tri (r.extract 0 k) i = tri r i := by
  have hk := place_le r 63
  rw [hp] at hk
  have hz := ext_size r (a := 0) (b := k) (by omega) hk
  have hb : ∀ j, j < k → bt (r.extract 0 k) j = bt r j := fun j hj => by
    have := ext_bt r (a := 0) (b := k) (j := j) (by omega)
    rwa [Nat.zero_add] at this
  by_cases h2 : i + 2 < k
  · unfold tri
    rw [hz, hb i hi, hb (i + 1) (by omega), hb (i + 2) h2, decide_eq_true (show i + 2 < k - 0 by omega), decide_eq_true (show i + 2 < r.size by omega)]
  · rw [tri_short (by omega)]
    rcases place_spec r 63 with ⟨h, _⟩ | ⟨q, h, hq, hb63, _⟩
    · rw [tri_short (by omega)]
    · rw [hp] at h
      subst h
      have hx : digV 63 < 0 := by decide
      by_cases h1 : k = i + 1
      · rw [tri_one (by rw [← h1, hb63]; exact hx)]
      · rw [tri_two (by rw [show i + 2 = k by omega, hb63]; exact hx)]
theorem stop_cut {P : Int → Bool} (h63 : P 63 = false) {r : ByteArray} {k : Nat} (hp : place r 63 = k) : ∀ (n i : Nat), k - i ≤ n → i ≤ k → stopF P (r.extract 0 k) i = stopF P r i
  | n, i, hn, hi => by
    have hk := place_le r 63
    rw [hp] at hk
    have hz := ext_size r (a := 0) (b := k) (by omega) hk
    by_cases e : i = k
    · subst e
      rw [stopF_end (by omega)]
      rcases place_spec r 63 with ⟨h, _⟩ | ⟨q, h, hq, hb63, _⟩
      · rw [stopF_end (by omega)]
      · rw [hp] at h
        subst h
        rw [stopF_stop hq (tri_other (by omega)) (by rw [hb63]; exact h63)]
    · have hb : bt (r.extract 0 k) i = bt r i := by
        have := ext_bt r (a := 0) (b := k) (j := i) (by omega)
        rwa [Nat.zero_add] at this
      rw [stopF_step (by omega), stopF_step (show i < r.size by omega), tri_cut hp (by omega), hb]
      match n, hn with
      | 0, hn => omega
      | n + 1, hn =>
        split
        · rename_i ht
          have h3 := (tri_iff.1 ((tri_cut hp (show i < k by omega)).trans ht)).1
          rw [stop_cut h63 hp n (i + 3) (by omega) (by omega)]
        · split
          · rw [stop_cut h63 hp n (i + 1) (by omega) (by omega)]
          · rfl
theorem path_63 : pathSign 63 = false := by decide +kernel
theorem path_cut (r : ByteArray) : pathStop (cutW r 63).1 = pathStop r ∧ pathStop r ≤ place r 63 ∧ (pathStop r < place r 63 → bt (cutW r 63).1 (pathStop r) = bt r (pathStop r)) := by
  rcases place_spec r 63 with ⟨h, _⟩ | ⟨k, h, hk, hb, _⟩
  · rw [cutW_miss h, h]
    exact ⟨rfl, stopF_le _ _, fun _ => rfl⟩
  · rw [cutW_hit hk h, h]
    have e : pathStop (r.extract 0 k) = pathStop r := stop_cut path_63 h k 0 (by omega) (by omega)
    have hle := stopF_le pathSign (r.extract 0 k)
    have hz := ext_size r (a := 0) (b := k) (by omega) (by omega)
    change pathStop (r.extract 0 k) ≤ _ at hle
    refine ⟨e, by omega, fun hlt => ?_⟩
    show bt (r.extract 0 k) _ = _
    have := ext_bt r (a := 0) (b := k) (j := pathStop r) (by omega)
    rwa [Nat.zero_add] at this
/-- What the reference makes of a path and a query. -/
def restR (t : Tg) (s : ByteArray) (i : Nat) : Tg × Nat × Int :=
  if pathStop (cutW (s.extract i s.size) 63).1 < (cutW (s.extract i s.size) 63).1.size then (noTg, i + pathStop (cutW (s.extract i s.size) 63).1, wrongE (cutW (s.extract i s.size) 63).1 (pathStop (cutW (s.extract i s.size) 63).1) 53)
  else if queryStop (cutW (s.extract i s.size) 63).2.1 < (cutW (s.extract i s.size) 63).2.1.size then (noTg, i + (cutW (s.extract i s.size) 63).1.size + 1 + queryStop (cutW (s.extract i s.size) 63).2.1, wrongE (cutW (s.extract i s.size) 63).2.1 (queryStop (cutW (s.extract i s.size) 63).2.1) 54)
  else (t.laid (cutW (s.extract i s.size) 63).1 (cutW (s.extract i s.size) 63).2.1 (cutW (s.extract i s.size) 63).2.2, 0, 0)
theorem wrongE_eq {s r : ByteArray} {i j : Nat} (h : bt r j = bt s i) (o : Int) : wrongE r j o = wrongE s i o := by unfold wrongE; rw [h]
theorem ext_pre (s : ByteArray) {i k : Nat} (hi : i ≤ s.size) (hk : i + k ≤ s.size) : (s.extract i s.size).extract 0 k = s.extract i (i + k) := by
  apply bytes_ext
  rw [Lib.extract_data, Lib.extract_data, Lib.extract_data, List.drop_zero, List.take_take]
  congr 1
  omega
theorem rest_eq (t : Tg) (s : ByteArray) {i : Nat} (hi : i ≤ s.size) : restR t s i = behindR t s i := by
  have hrz := ext_size s (a := i) (b := s.size) hi (Nat.le_refl _)
  have hrb : ∀ j, j < s.size - i → bt (s.extract i s.size) j = bt s (i + j) := fun j hj => ext_bt s hj
  obtain ⟨h1, h2, h3⟩ := path_cut (s.extract i s.size)
  have he : endP s i = i + pathStop (s.extract i s.size) := rfl
  have hee : ∀ k, i + k + 1 ≤ s.size → (s.extract i s.size).extract (k + 1) (s.extract i s.size).size = s.extract (i + k + 1) s.size := fun k hk => by
    rw [ext_ext, Nat.add_assoc]
  have hpre : ∀ k, i + k ≤ s.size → (s.extract i s.size).extract 0 k = s.extract i (i + k) := fun k hk => ext_pre s hi hk
  unfold restR behindR
  rw [h1, he]
  generalize s.extract i s.size = r at *
  rcases place_spec r 63 with ⟨hp, hn⟩ | ⟨k, hp, hk, hb, hn⟩
  · rw [cutW_miss hp] at *
    rw [hp] at h2 h3
    by_cases hq : pathStop r = r.size
    · have hs : i + r.size = s.size := by omega
      have hr : r = s.extract i s.size := by rw [← hs, ← hpre r.size (by omega)]; simp
      rw [if_neg (by simp only; omega), if_neg (show ¬ queryStop ⟨#[]⟩ < ByteArray.size ⟨#[]⟩ from Nat.not_lt_zero _), if_pos (by omega), hq, hs, ← hr]
    · have hlt : pathStop r < r.size := by omega
      rw [if_pos (by simp only; omega), if_neg (by omega)]
      have hbb := hrb (pathStop r) (by omega)
      have hne := hn (pathStop r) hlt
      rw [if_neg (by rw [← hbb]; exact hne), wrongE_eq hbb]
  · rw [hp] at h2 h3
    rw [cutW_hit hk hp] at *
    have hz := ext_size r (a := 0) (b := k) (by omega) (by omega)
    simp only [hz, Nat.sub_zero] at *
    by_cases hlt : pathStop r < k
    · rw [if_pos hlt, if_neg (by omega)]
      have hbb := hrb (pathStop r) (by omega)
      have hne := hn (pathStop r) hlt
      rw [if_neg (by rw [← hbb]; exact hne), wrongE_eq ((h3 hlt).trans hbb)]
    · have hpk : pathStop r = k := by omega
      have hbk : bt s (i + k) = 63 := by rw [← hrb k (by omega)]; exact hb
      rw [if_neg hlt, hpk, if_neg (show ¬ i + k = s.size by omega), if_pos hbk, hee k (by omega), hpre k (by omega)]
      have hqz := ext_size s (a := i + k + 1) (b := s.size) (by omega) (Nat.le_refl _)
      have hql := stopF_le querySign (s.extract (i + k + 1) s.size)
      change queryStop (s.extract (i + k + 1) s.size) ≤ _ at hql
      have hE : endQ s (i + k + 1) = i + k + 1 + queryStop (s.extract (i + k + 1) s.size) := rfl
      rw [hE]
      by_cases hqe : queryStop (s.extract (i + k + 1) s.size) < (s.extract (i + k + 1) s.size).size
      · have hbb := ext_bt s (a := i + k + 1) (b := s.size) (j := queryStop (s.extract (i + k + 1) s.size)) (by omega)
        rw [if_pos hqe, if_pos (by omega), wrongE_eq hbb]
      · rw [if_neg hqe, if_neg (by omega)]
end Go.Proofs.YtiohmnhbmmhnhaaGreatDoor
