/-
  Plain law: what PrintLine prints, ParseLine reads as it was.
-/
import Derived.Test.YtamagbdkcfmfmaaDoorPrint
import Derived.Test.YtamagbdkcfmfmaaDoorParse
namespace Go.Proofs.YtamagbdkcfmfmaaDoor

theorem bt_app (s t : ByteArray) (j : Nat) : bt (s ++ t) j = if j < s.size then bt s j else bt t (j - s.size) := by
  unfold bt
  rw [ByteArray.data_append, Array.toList_append, List.getD_eq_getElem?_getD, List.getElem?_append, size_eq]
  split <;> simp [List.getD_eq_getElem?_getD]
theorem app_front (s t : ByteArray) : (s ++ t).extract 0 s.size = s := bytes_ext (by
  rw [ext_front, ByteArray.data_append, Array.toList_append, List.take_left' (size_eq s)])
theorem app_back (s t : ByteArray) : (s ++ t).extract s.size (s ++ t).size = t := bytes_ext (by
  rw [ext_all, ByteArray.data_append, Array.toList_append, List.drop_left' (size_eq s)])
theorem sign_blank {c : Int} (h : sign c = true) : blank c = false := by
  cases hb : blank c
  · rfl
  · unfold blank at hb
    simp at hb
    rcases hb with rfl | rfl <;> exact absurd h (by decide)
theorem sign_colon {c : Int} (h : sign c = true) : c ≠ 58 := by
  rintro rfl
  exact absurd h (by decide)
theorem isName_good {x : ByteArray} (h : isName x = true) : 0 < x.size ∧ x.size ≤ 128 ∧ ∀ j, j < x.size → sign (bt x j) = true := by
  unfold isName isTok at h
  simp at h
  exact ⟨by have := h.2.2; rcases Nat.eq_zero_or_pos x.size with e | e; · exact absurd (by simpa using e) h.2.2
            · exact e, h.1, allB_at h.2.1⟩
theorem isValue_good {y : ByteArray} (h : isValue y = true) : y.size ≤ 8192 ∧ (∀ j, j < y.size → inside (bt y j) = true) ∧ trim y = y := by
  unfold isValue isFld at h
  simp at h
  exact ⟨h.1, allB_at h.2.1, h.2.2⟩
theorem parse_print {x z y : ByteArray} (hx : isName x = true) (hy : y.size ≤ 8192) (hz : ∀ j, j < z.size → inside (bt z j) = true) (ht : trim z = y) : parseLine (x ++ (⟨#[58]⟩ ++ z)) = (x, y, 0, 0) := by
  obtain ⟨h0, h1, h2⟩ := isName_good hx
  have hs : (x ++ ((⟨#[58]⟩ : ByteArray) ++ z)).size = x.size + (1 + z.size) := by simp only [ByteArray.size_append]; rfl
  have hlow : ∀ j, j < x.size → bt (x ++ ((⟨#[58]⟩ : ByteArray) ++ z)) j = bt x j := fun j hj => by rw [bt_app, if_pos hj]
  have hmid : bt (x ++ ((⟨#[58]⟩ : ByteArray) ++ z)) x.size = 58 := by rw [bt_app, if_neg (by omega), Nat.sub_self, bt_app, if_pos (by decide)]; rfl
  have hhigh : ∀ j, x.size + 1 ≤ j → bt (x ++ ((⟨#[58]⟩ : ByteArray) ++ z)) j = bt z (j - (x.size + 1)) := fun j hj => by
    have e1 : (⟨#[58]⟩ : ByteArray).size = 1 := rfl
    rw [bt_app, if_neg (by omega), bt_app, e1, if_neg (by omega), Nat.sub_sub]
  have hback : (x ++ ((⟨#[58]⟩ : ByteArray) ++ z)).extract (x.size + 1) (x ++ ((⟨#[58]⟩ : ByteArray) ++ z)).size = z := by
    rw [← ByteArray.append_assoc]
    have e : x.size + 1 = (x ++ (⟨#[58]⟩ : ByteArray)).size := by rw [ByteArray.size_append]; rfl
    rw [e, app_back]
  have hfront : (x ++ ((⟨#[58]⟩ : ByteArray) ++ z)).extract 0 x.size = x := app_front _ _
  generalize x ++ ((⟨#[58]⟩ : ByteArray) ++ z) = s at *
  have hplace : place s 58 = x.size := by
    unfold place
    refine scan_stop (fun j _ hj => ?_) (by omega) (by omega) ?_
    · have := sign_colon (h2 j hj)
      rw [hlow j hj]
      simp [this]
    · simp [hmid]
  rw [pl_ok (k := x.size) ?a (by omega) h0 hplace ?b ?c ?d, hfront, hback, ht]
  case a => rintro ⟨_, hb⟩; rw [hlow 0 h0, sign_blank (h2 0 h0)] at hb; cases hb
  case b => intro j _ hj; show (decide (j < 128) && sign (bt s j)) = true; rw [hlow j hj, h2 j hj, decide_eq_true (show j < 128 by omega)]; rfl
  case c => intro j hj hj2; show inside (bt s j) = true; rw [hhigh j hj]; exact hz _ (by omega)
  case d => rw [hback, ht]; omega

theorem trim_lead (y : ByteArray) : trim ((⟨#[32]⟩ : ByteArray) ++ y) = trim y := by
  have h1 : ((⟨#[32]⟩ : ByteArray) ++ y).size = 1 + y.size := by rw [ByteArray.size_append]; rfl
  have h2 : bt ((⟨#[32]⟩ : ByteArray) ++ y) 0 = 32 := by rw [bt_app, if_pos (by decide)]; rfl
  have h3 : ((⟨#[32]⟩ : ByteArray) ++ y).extract 1 ((⟨#[32]⟩ : ByteArray) ++ y).size = y := app_back _ _
  have h4 := trimL_step ((⟨#[32]⟩ : ByteArray) ++ y) (by omega) (by rw [h2]; rfl)
  rw [h3] at h4
  rw [← trim_comm, ← h4, trim_comm]
theorem inside_13 : inside 13 = false := by decide
theorem sign_13 : sign 13 = false := by decide
/-- A right field's line is read as the field; it holds no byte 13. -/
theorem parse_line {x y : ByteArray} (hx : isName x = true) (hy : isValue y = true) :
    (printLine (x, y)).2 = 0 ∧ parseLine (printLine (x, y)).1 = (x, y, 0, 0) ∧ ∀ j, j < (printLine (x, y)).1.size → bt (printLine (x, y)).1 j ≠ 13 := by
  obtain ⟨h0, h1, h2⟩ := isName_good hx
  obtain ⟨g0, g1, g2⟩ := isValue_good hy
  have hz : ∀ z : ByteArray, (∀ j, j < z.size → inside (bt z j) = true) → ∀ j, j < (x ++ ((⟨#[58]⟩ : ByteArray) ++ z)).size → bt (x ++ ((⟨#[58]⟩ : ByteArray) ++ z)) j ≠ 13 := by
    intro z hz j hj he
    have e1 : (⟨#[58]⟩ : ByteArray).size = 1 := rfl
    rw [ByteArray.size_append, ByteArray.size_append, e1] at hj
    rw [bt_app] at he
    split at he
    · rename_i hlt
      have := h2 j hlt
      rw [he, sign_13] at this
      cases this
    · rw [bt_app, e1] at he
      split at he
      · rename_i hlt
        have e0 : j - x.size = 0 := by omega
        rw [e0] at he
        exact absurd he (by decide)
      · have := hz (j - x.size - 1) (by omega)
        rw [he, inside_13] at this
        cases this
  by_cases he : y.size = 0
  · have hy0 : y = ⟨#[]⟩ := bytes_ext (List.eq_nil_of_length_eq_zero (by rw [size_eq]; exact he))
    have hl : printLine (x, y) = (x ++ ((⟨#[58]⟩ : ByteArray) ++ ⟨#[]⟩), 0) := by
      rw [printLine_short hx hy he]
      congr 1
    rw [hl]
    refine ⟨rfl, ?_, hz _ fun j hj => absurd hj (Nat.not_lt_zero j)⟩
    exact parse_print hx g0 (fun j hj => absurd hj (Nat.not_lt_zero j)) (by rw [hy0]; decide)
  · have hl : printLine (x, y) = (x ++ ((⟨#[58]⟩ : ByteArray) ++ ((⟨#[32]⟩ : ByteArray) ++ y)), 0) := by
      rw [printLine_long hx hy he]
      congr 1
      apply bytes_ext
      simp
    have hin : ∀ j, j < ((⟨#[32]⟩ : ByteArray) ++ y).size → inside (bt ((⟨#[32]⟩ : ByteArray) ++ y) j) = true := by
      intro j hj
      have e1 : (⟨#[32]⟩ : ByteArray).size = 1 := rfl
      rw [ByteArray.size_append, e1] at hj
      rw [bt_app, e1]
      split
      · rename_i hlt
        have e0 : j = 0 := by omega
        rw [e0]
        decide
      · exact g1 _ (by omega)
    rw [hl]
    exact ⟨rfl, parse_print hx g0 hin (by rw [trim_lead, g2]), hz _ hin⟩

def Right (l : List Fl) : Prop := ∀ p ∈ l, isName p.1 = true ∧ isValue p.2 = true
def body (l : List Fl) : List UInt8 := l.flatMap fun p => (printLine p).1.data.toList ++ [13, 10]
theorem printGo_right : ∀ (l : List Fl) (acc : List UInt8), Right l → printGo l acc = (acc ++ body l, 0)
  | [], acc, _ => by simp [printGo, body]
  | p :: l, acc, h => by
    have hp := h p (by simp)
    obtain ⟨x, y⟩ := p
    have h1 := (parse_line hp.1 hp.2).1
    have h2 := printGo_right l (acc ++ (printLine (x, y)).1.data.toList ++ [13, 10]) (fun q hq => h q (by simp [hq]))
    unfold printGo
    rw [if_pos h1, h2]
    simp [body]
theorem parse_body (l : List Fl) : ∀ (pre : List UInt8) (n : Nat) (acc : List Fl), Right l → acc.length + l.length ≤ 100 → (pre ++ body l).length ≤ pre.length + n →
    parseGo ⟨(pre ++ body l).toArray⟩ n pre.length acc = (acc ++ l, 0, 0) := by
  induction l with
  | nil =>
    intro pre n acc _ _ _
    rw [parseGo_done (by rw [← size_eq]; simp [body]), List.append_nil]
  | cons p l ih =>
    intro pre n acc hR h100 hn
    have hp := hR p (by simp)
    obtain ⟨x, y⟩ := p
    obtain ⟨h1, h2, h3⟩ := parse_line hp.1 hp.2
    have ih := ih (pre ++ ((printLine (x, y)).1.data.toList ++ [13, 10])) (n - 1) (acc ++ [(x, y)]) (fun q hq => hR q (by simp [hq])) (by simp at h100 ⊢; omega)
    have eb : body ((x, y) :: l) = (printLine (x, y)).1.data.toList ++ [13, 10] ++ body l := by simp [body]
    rw [eb] at hn ⊢
    generalize (printLine (x, y)).1 = t at *
    have hl : ((pre ++ (t.data.toList ++ [13, 10] ++ body l)).length) = pre.length + (t.size + 2 + (body l).length) := by simp; omega
    have hs : (⟨(pre ++ (t.data.toList ++ [13, 10] ++ body l)).toArray⟩ : ByteArray).size = pre.length + (t.size + 2 + (body l).length) := by rw [← hl, ← size_eq]
    have hbt : ∀ j, bt ⟨(pre ++ (t.data.toList ++ [13, 10] ++ body l)).toArray⟩ j = (((pre ++ (t.data.toList ++ [13, 10] ++ body l)).getD j 0).toNat : Int) := fun j => rfl
    have hin : ∀ j, pre.length ≤ j → j < pre.length + t.size → bt ⟨(pre ++ (t.data.toList ++ [13, 10] ++ body l)).toArray⟩ j = bt t (j - pre.length) := by
      intro j ha hb
      rw [hbt, List.getD_eq_getElem?_getD, List.getElem?_append_right ha, List.append_assoc, List.getElem?_append_left (by rw [size_eq]; omega)]
      rfl
    have h13 : bt ⟨(pre ++ (t.data.toList ++ [13, 10] ++ body l)).toArray⟩ (pre.length + t.size) = 13 := by
      rw [hbt, List.getD_eq_getElem?_getD, List.getElem?_append_right (by omega), List.append_assoc, List.getElem?_append_right (by rw [size_eq]; omega), size_eq, show pre.length + t.size - pre.length - t.size = 0 from by omega]
      rfl
    have h10 : bt ⟨(pre ++ (t.data.toList ++ [13, 10] ++ body l)).toArray⟩ (pre.length + t.size + 1) = 10 := by
      rw [hbt, List.getD_eq_getElem?_getD, List.getElem?_append_right (by omega), List.append_assoc, List.getElem?_append_right (by rw [size_eq]; omega), size_eq, show pre.length + t.size + 1 - pre.length - t.size = 1 from by omega]
      rfl
    have hex : (⟨(pre ++ (t.data.toList ++ [13, 10] ++ body l)).toArray⟩ : ByteArray).extract pre.length (pre.length + t.size) = t := bytes_ext (by
      rw [Lib.extract_data, show pre.length + t.size - pre.length = t.data.toList.length from by rw [size_eq]; omega]
      show List.take _ (List.drop _ (pre ++ (t.data.toList ++ [13, 10] ++ body l))) = _
      rw [List.drop_left, List.append_assoc, List.take_left])
    have ev : pre ++ ((t.data.toList ++ [13, 10]) ++ body l) = pre ++ (t.data.toList ++ [13, 10]) ++ body l := by simp
    generalize hS : (⟨(pre ++ (t.data.toList ++ [13, 10] ++ body l)).toArray⟩ : ByteArray) = s at *
    have hend : endAt s pre.length = pre.length + t.size := by
      refine endAt_eq (by omega) ?_ (fun j ha hb => ?_)
      · unfold isEnd
        rw [h13, h10, decide_eq_true (show pre.length + t.size + 1 < s.size by omega)]
        rfl
      · unfold isEnd
        rw [hin j ha hb, decide_eq_false (h3 _ (by omega))]
        rfl
    rw [parseGo_on (by omega) (by omega) (by omega) (by simp at h100; omega) (by rw [hend, hex, h2])]
    rw [hend, hex, h2]
    have e2 : (pre ++ (t.data.toList ++ [13, 10])).length = pre.length + t.size + 2 := by simp; omega
    rw [e2, ← ev, hS] at ih
    have hlen : (pre ++ (t.data.toList ++ [13, 10] ++ body l)).length ≤ pre.length + t.size + 2 + (n - 1) := by omega
    have := ih hlen
    rw [this]
    simp
/-- Right fields are printed, and read again as they were. -/
theorem parse_printed {l : List Fl} (h : Right l) (hl : l.length ≤ 100) : (printAll l).2 = 0 ∧ parseAll (printAll l).1 = (l, 0, 0) := by
  have e : printAll l = (⟨(body l).toArray⟩, 0) := by
    unfold printAll
    rw [if_neg (by omega), printGo_right l [] h]
    rfl
  rw [e]
  refine ⟨rfl, ?_⟩
  have := parse_body l [] (body l).length [] h (by simpa using hl) (by simp)
  unfold parseAll
  rw [show (⟨(body l).toArray⟩ : ByteArray).size = (body l).length from by rw [← size_eq]]
  exact this
end Go.Proofs.YtamagbdkcfmfmaaDoor
