/-
  Plain words on printing a target; the program's text and the reference's come to the same.
-/
import Derived.Test.YtiohmnhbmmhnhaaGreatDoorTgT
namespace Go.Proofs.YtiohmnhbmmhnhaaGreatDoor

def mkT (l : List UInt8) : ByteArray := ⟨l.toArray⟩
theorem mkT_data (l : List UInt8) : (mkT l).data.toList = l := rfl
theorem mkT_size (l : List UInt8) : (mkT l).size = l.length := by rw [← size_eq]; rfl
theorem mkT_of (s : ByteArray) : mkT s.data.toList = s := bytes_ext rfl
def portT (p : Int) : List UInt8 := if p = -1 then [] else 58 :: Lib.itoa p
def queryT (t : Tg) : List UInt8 := if t.hasq = true then 63 :: t.query.data.toList else []
def tailT (t : Tg) : List UInt8 := t.path.data.toList ++ queryT t
def textP (t : Tg) : ByteArray × ByteArray :=
  if t.form = 1 then (getT, mkT (tailT t))
  else if t.form = 2 then (getT, mkT (httpT.data.toList ++ t.host.data.toList ++ portT t.port ++ tailT t))
  else if t.form = 3 then (connT, mkT (t.host.data.toList ++ portT t.port ++ tailT t))
  else if t.form = 4 then (optT, mkT (starT.data.toList ++ portT t.port ++ tailT t))
  else (getT, mkT (portT t.port ++ tailT t))
def textQ (t : Tg) : ByteArray × ByteArray :=
  if t.form = 1 then (getT, mkT (tailT t))
  else if t.form = 2 then (getT, mkT (httpT.data.toList ++ t.host.data.toList ++ portT t.port ++ tailT t))
  else if t.form = 3 then (connT, mkT (t.host.data.toList ++ portT t.port))
  else (optT, starT)
def sameTg (a b : Tg) : Bool := decide (a.form = b.form) && decide (a.host = b.host) && decide (a.port = b.port) && decide (a.path = b.path) && decide (a.query = b.query) && decide (a.hasq = b.hasq)
theorem sameTg_iff {a b : Tg} : sameTg a b = true ↔ a = b := by
  constructor
  · intro h
    simp only [sameTg, Bool.and_eq_true, decide_eq_true_eq] at h
    obtain ⟨⟨⟨⟨⟨h1, h2⟩, h3⟩, h4⟩, h5⟩, h6⟩ := h
    exact Tg.ext_of h1 h2 h3 h4 h5 h6
  · rintro rfl; simp [sameTg]
def printWith (x : ByteArray × ByteArray) (t : Tg) : ByteArray × Int := if (parseT x.1 x.2).2.2 = 0 ∧ sameTg (parseT x.1 x.2).1 t = true then (x.2, 0) else (⟨#[]⟩, 50)
theorem print_yes {x : ByteArray × ByteArray} {t : Tg} (h1 : (parseT x.1 x.2).2.2 = 0) (h2 : (parseT x.1 x.2).1 = t) : printWith x t = (x.2, 0) := by unfold printWith; rw [if_pos ⟨h1, sameTg_iff.2 h2⟩]
theorem print_no {x : ByteArray × ByteArray} {t : Tg} (h : ¬ (parseT x.1 x.2).2.2 = 0 ∨ (parseT x.1 x.2).1 ≠ t) : printWith x t = (⟨#[]⟩, 50) := by
  unfold printWith
  rw [if_neg]
  rintro ⟨h1, h2⟩
  rcases h with h | h
  · exact h h1
  · exact h (sameTg_iff.1 h2)
def printR (t : Tg) : ByteArray × Int := printWith (textP t) t

theorem wrongE_ne (s : ByteArray) (i : Nat) {o : Int} (h : o ≠ 0) : wrongE s i o ≠ 0 := by
  unfold wrongE
  split <;> omega
/-- What a path and a query leave as it was. -/
theorem behindR_keeps (t : Tg) (s : ByteArray) (i : Nat) (h : (behindR t s i).2.2 = 0) : (behindR t s i).1.form = t.form ∧ (behindR t s i).1.host = t.host ∧ (behindR t s i).1.port = t.port ∧ (behindR t s i).2.1 = 0 := by
  unfold behindR at *
  split at h
  · rename_i h1
    rw [if_pos h1]
    exact ⟨rfl, rfl, rfl, rfl⟩
  · rename_i h1
    rw [if_neg h1]
    split at h
    · rename_i h2
      rw [if_pos h2]
      split at h
      · exact absurd h (wrongE_ne _ _ (by decide))
      · rename_i h3
        rw [if_neg h3]
        exact ⟨rfl, rfl, rfl, rfl⟩
    · exact absurd h (wrongE_ne _ _ (by decide))
theorem conn_ne : ¬ getT = connT ∧ ¬ optT = connT ∧ ¬ getT = optT := by decide +kernel
theorem parse_conn (s : ByteArray) (h : (parseT connT s).2.2 = 0) : (parseT connT s).1.form = 3 ∧ (parseT connT s).1.path = ⟨#[]⟩ ∧ (parseT connT s).1.query = ⟨#[]⟩ ∧ (parseT connT s).1.hasq = false := by
  unfold parseT connR at *
  split at h
  · cases h
  · rename_i h1
    rw [if_neg h1, if_pos rfl]
    rw [if_pos rfl] at h
    split at h
    · rename_i h2
      rw [if_pos h2]
      exact ⟨rfl, rfl, rfl, rfl⟩
    · cases h
theorem absR_form (s : ByteArray) (h : (absR s).2.2 = 0) : (absR s).1.form = 2 := by
  unfold absR at *
  split at h
  · rename_i h1
    rw [if_pos h1]
    exact (behindR_keeps _ _ _ h).1
  · cases h
theorem parse_get (s : ByteArray) (h : (parseT getT s).2.2 = 0) : (parseT getT s).1.form = 1 ∨ (parseT getT s).1.form = 2 := by
  unfold parseT at *
  split at h
  · cases h
  · rename_i h1
    rw [if_neg h1, if_neg conn_ne.1]
    rw [if_neg conn_ne.1] at h
    split at h
    · rename_i h2
      rw [if_pos h2]
      exact .inl (behindR_keeps _ _ _ h).1
    · rename_i h2
      rw [if_neg h2, if_neg (fun e => conn_ne.2.2 e.2)]
      rw [if_neg (fun e => conn_ne.2.2 e.2)] at h
      split at h
      · cases h
      · rename_i h3
        rw [if_neg h3]
        exact .inr (absR_form s h)
theorem parse_star : parseT optT starT = (⟨4, ⟨#[]⟩, -1, ⟨#[]⟩, ⟨#[]⟩, false⟩, 0, 0) := by
  unfold parseT
  rw [if_neg (by decide), if_neg conn_ne.2.1, if_neg (by decide), if_pos ⟨rfl, rfl⟩]
theorem lower_first {s : ByteArray} (h : 0 < s.size) : bt (lower s) 0 = ((lowB (UInt8.ofNat (bt s 0).toNat)).toNat : Int) := lower_bt s h
theorem parse_starry {s : ByteArray} (h0 : 0 < s.size) (h1 : bt s 0 = 42) (h2 : s ≠ starT) : (parseT optT s).2.2 = 50 := by
  unfold parseT
  rw [if_neg (by omega), if_neg conn_ne.2.1, if_neg (by omega), if_neg (fun e => h2 e.1)]
  by_cases h7 : s.size < 7
  · rw [if_pos (.inl h7)]
  · rw [if_pos]
    right
    intro e
    have hz := ext_size s (a := 0) (b := 7) (by omega) (by omega)
    have hb : bt (s.extract 0 7) 0 = bt s 0 := ext_bt s (j := 0) (by omega)
    have h3 := lower_first (s := s.extract 0 7) (by omega)
    rw [hb, h1, e] at h3
    exact absurd h3 (by decide)
theorem nil_of_size {s : ByteArray} (h : s.size = 0) : s = ⟨#[]⟩ := by
  apply bytes_ext
  apply List.eq_nil_of_length_eq_zero
  rw [size_eq]
  exact h
theorem print_same (t : Tg) : printWith (textP t) t = printWith (textQ t) t := by
  unfold textP textQ
  by_cases f1 : t.form = 1
  · rw [if_pos f1, if_pos f1]
  · rw [if_neg f1, if_neg f1]
    by_cases f2 : t.form = 2
    · rw [if_pos f2, if_pos f2]
    · rw [if_neg f2, if_neg f2]
      by_cases f3 : t.form = 3
      · rw [if_pos f3, if_pos f3]
        by_cases hp : t.path = ⟨#[]⟩ ∧ t.hasq = false
        · have : tailT t = [] := by unfold tailT queryT; rw [hp.1, hp.2]; rfl
          rw [this, List.append_nil]
        · have no : ∀ s : ByteArray, printWith (connT, s) t = (⟨#[]⟩, 50) := fun s => by
            apply print_no
            by_cases h : (parseT connT s).2.2 = 0
            · right
              intro e
              obtain ⟨_, g1, _, g2⟩ := parse_conn s h
              change (parseT connT s).1 = t at e
              rw [e] at g1 g2
              exact hp ⟨g1, g2⟩
            · exact .inl h
          rw [no, no]
      · rw [if_neg f3, if_neg f3]
        have hq : t.form ≠ 4 → printWith (optT, starT) t = (⟨#[]⟩, 50) := fun h4 => by
          apply print_no
          right
          intro e
          change (parseT optT starT).1 = t at e
          rw [parse_star] at e
          rw [← e] at h4
          exact h4 rfl
        by_cases f4 : t.form = 4
        · rw [if_pos f4]
          by_cases he : portT t.port ++ tailT t = []
          · rw [List.append_assoc, he, List.append_nil, mkT_of]
          · have hne : mkT (starT.data.toList ++ portT t.port ++ tailT t) ≠ starT := fun e => by
              have := congrArg (fun s : ByteArray => s.data.toList) e
              simp only [mkT_data, List.append_assoc] at this
              have h2 : starT.data.toList ++ (portT t.port ++ tailT t) = starT.data.toList ++ [] := by rw [List.append_nil]; exact this
              exact he (List.append_cancel_left h2)
            have hs : 0 < (mkT (starT.data.toList ++ portT t.port ++ tailT t)).size := by rw [mkT_size]; simp [starT]
            have hb : bt (mkT (starT.data.toList ++ portT t.port ++ tailT t)) 0 = 42 := rfl
            have h50 := parse_starry hs hb hne
            rw [print_no (.inl (by show ¬ (parseT optT _).2.2 = 0; rw [h50]; decide))]
            symm
            apply print_no
            right
            intro e
            change (parseT optT starT).1 = t at e
            rw [parse_star] at e
            apply he
            rw [← e]
            rfl
        · rw [if_neg f4, hq f4]
          apply print_no
          by_cases h : (parseT getT (mkT (portT t.port ++ tailT t))).2.2 = 0
          · right
            intro e
            change (parseT getT _).1 = t at e
            rcases parse_get _ h with g | g
            · rw [e] at g; exact f1 g
            · rw [e] at g; exact f2 g
          · exact .inl h
end Go.Proofs.YtiohmnhbmmhnhaaGreatDoor
