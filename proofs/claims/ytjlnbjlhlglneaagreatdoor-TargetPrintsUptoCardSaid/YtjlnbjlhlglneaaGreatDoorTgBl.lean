/-
  Plain words: a target that was read, printed, reads again as it was: the whole.
-/
import Derived.Test.YtjlnbjlhlglneaaGreatDoorTgBk
namespace Go.Proofs.YtjlnbjlhlglneaaGreatDoor

theorem rest_form {t0 t : Tg} {s : ByteArray} {i j : Nat} (hi : i ≤ s.size) (h : behindR t0 s i = (t, j, 0)) :
    ∃ a q b, cutW (s.extract i s.size) 63 = (a, q, b) ∧ t = t0.laid a q b ∧ pathStop a = a.size ∧ queryStop q = q.size ∧ (b = false → q = ⟨#[]⟩) ∧ ∀ k, k < a.size → bt a k ≠ 63 := by
  rw [← rest_eq t0 s hi] at h
  have hc : ((cutW (s.extract i s.size) 63).2.2 = false → (cutW (s.extract i s.size) 63).2.1 = ⟨#[]⟩) ∧ ∀ k, k < (cutW (s.extract i s.size) 63).1.size → bt (cutW (s.extract i s.size) 63).1 k ≠ 63 := by
    generalize s.extract i s.size = r
    rcases place_spec r 63 with ⟨e, hn⟩ | ⟨k, e, hk, _, hn⟩
    · rw [cutW_miss e]
      exact ⟨fun _ => rfl, hn⟩
    · rw [cutW_hit hk e]
      refine ⟨(fun h => by cases h), fun j hj => ?_⟩
      have hz := ext_size r (a := 0) (b := k) (by omega) (by omega)
      have hj' : j < (r.extract 0 k).size := hj
      have := ext_bt r (a := 0) (b := k) (j := j) (by omega)
      rw [Nat.zero_add] at this
      show bt (r.extract 0 k) j ≠ 63
      rw [this]
      exact hn j (by omega)
  unfold restR at h
  generalize cutW (s.extract i s.size) 63 = c at *
  obtain ⟨a, q, b⟩ := c
  have e0 : ∀ (x : Tg) (n : Nat) (o : Int), o ≠ 0 → ¬ (x, n, o) = (t, j, 0) := fun x n o ho e => ho (congrArg (fun r : Tg × Nat × Int => r.2.2) e)
  have hpl := stopF_le pathSign a
  have hql := stopF_le querySign q
  split at h
  · exact absurd h (e0 _ _ _ (wrongE_ne _ _ (by decide)))
  · rename_i h1
    split at h
    · exact absurd h (e0 _ _ _ (wrongE_ne _ _ (by decide)))
    · rename_i h2
      have h1' : ¬ pathStop a < a.size := h1
      have h2' : ¬ queryStop q < q.size := h2
      have hpl' : pathStop a ≤ a.size := hpl
      have hql' : queryStop q ≤ q.size := hql
      exact ⟨a, q, b, rfl, (congrArg (fun r : Tg × Nat × Int => r.1) h).symm, by omega, by omega, hc.1, hc.2⟩
theorem rest_build (t0 : Tg) {P Q : ByteArray} {b : Bool} (hp : pathStop P = P.size) (h63 : ∀ k, k < P.size → bt P k ≠ 63) (hq : queryStop Q = Q.size) (hb : b = false → Q = ⟨#[]⟩)
    {s : ByteArray} {i : Nat} (hi : i ≤ s.size) (hs : s.extract i s.size = mkT (P.data.toList ++ if b = true then 63 :: Q.data.toList else [])) : behindR t0 s i = (t0.laid P Q b, 0, 0) := by
  have hc : cutW (mkT (P.data.toList ++ if b = true then 63 :: Q.data.toList else [])) 63 = (P, Q, b) := by
    have hlen := data_len P
    cases b
    · rw [if_neg (by decide), mk_self, cutW_miss (place_none h63), hb rfl]
    · rw [if_pos rfl]
      have hpl : place (mkT (P.data.toList ++ 63 :: Q.data.toList)) 63 = P.size := by
        refine place_at ?_ ?_ ?_
        · rw [mkT_size, List.length_append, hlen]; simp
        · have := bt_right P.data.toList (63 :: Q.data.toList) 0
          rw [Nat.add_zero, hlen] at this
          rw [this]; rfl
        · intro k hk
          rw [bt_left _ _ (by omega), mkT_of]
          exact h63 k hk
      rw [cutW_hit (by rw [mkT_size, List.length_append, hlen]; simp) hpl]
      have e1 : (mkT (P.data.toList ++ 63 :: Q.data.toList)).extract 0 P.size = P := by rw [← hlen, mk_left, mkT_of]
      have e2 : (mkT (P.data.toList ++ 63 :: Q.data.toList)).extract (P.size + 1) (mkT (P.data.toList ++ 63 :: Q.data.toList)).size = Q := by
        rw [← ext_ext, ← hlen, mk_right, mk_tail, mkT_of]
      rw [e1, e2]
  rw [← rest_eq t0 s hi]
  unfold restR
  rw [hs, hc]
  dsimp only
  rw [if_neg (by omega), if_neg (by omega)]
theorem slash_stop : pathStop slashT = slashT.size ∧ (∀ k, k < slashT.size → bt slashT k ≠ 63) ∧ ¬ slashT.size = 0 := by decide +kernel
theorem tail_again {t0 t : Tg} {s : ByteArray} {i j : Nat} (hi : i ≤ s.size) (h : behindR t0 s i = (t, j, 0)) {s' : ByteArray} {i' : Nat} (hi' : i' ≤ s'.size) (hs : s'.extract i' s'.size = mkT (tailT t)) : behindR t0 s' i' = (t, 0, 0) := by
  obtain ⟨a, q, b, _, rfl, h1, h2, h3, h4⟩ := rest_form hi h
  by_cases ha : a.size = 0
  · have e : t0.laid a q b = t0.laid slashT q b := by unfold Tg.laid; rw [if_pos ha, if_neg slash_stop.2.2]
    rw [e] at hs ⊢
    refine rest_build t0 slash_stop.1 slash_stop.2.1 h2 h3 hi' ?_
    rw [hs]
    unfold tailT queryT Tg.laid
    rw [if_neg slash_stop.2.2]
  · refine rest_build t0 h1 h4 h2 h3 hi' ?_
    rw [hs]
    unfold tailT queryT Tg.laid
    rw [if_neg ha]
/-- What the path begins with. -/
theorem tail_head {t0 t : Tg} {s : ByteArray} {i j : Nat} (hi : i ≤ s.size) (h : behindR t0 s i = (t, j, 0)) (h47 : i < s.size → bt s i = 47 ∨ bt s i = 63) : 0 < (tailT t).length ∧ bt (mkT (tailT t)) 0 = 47 := by
  obtain ⟨a, q, b, hc, rfl, h1, h2, h3, h4⟩ := rest_form hi h
  have hpath : (t0.laid a q b).path = if a.size = 0 then slashT else a := rfl
  have key : 0 < (if a.size = 0 then slashT else a).size ∧ bt (if a.size = 0 then slashT else a) 0 = 47 := by
    by_cases ha : a.size = 0
    · rw [if_pos ha]; exact ⟨by decide, by decide⟩
    · rw [if_neg ha]
      refine ⟨by omega, ?_⟩
      have hrz := ext_size s (a := i) (b := s.size) hi (Nat.le_refl _)
      have hab : a.size ≤ s.size - i ∧ bt a 0 = bt (s.extract i s.size) 0 := by
        rcases place_spec (s.extract i s.size) 63 with ⟨e, _⟩ | ⟨k, e, hk, _, _⟩
        · rw [cutW_miss e] at hc
          have : s.extract i s.size = a := congrArg (fun r => r.1) hc
          rw [← this]
          exact ⟨by omega, rfl⟩
        · rw [cutW_hit hk e] at hc
          have hx : (s.extract i s.size).extract 0 k = a := congrArg (fun r => r.1) hc
          have hz := ext_size (s.extract i s.size) (a := 0) (b := k) (by omega) (by omega)
          rw [hx] at hz
          refine ⟨by omega, ?_⟩
          have := ext_bt (s.extract i s.size) (a := 0) (b := k) (j := 0) (by omega)
          rw [hx, Nat.zero_add] at this
          exact this
      have hsi : bt (s.extract i s.size) 0 = bt s i := ext_bt s (a := i) (b := s.size) (j := 0) (by omega)
      have h63 := h4 0 (by omega)
      rcases h47 (by omega) with e | e
      · rw [hab.2, hsi, e]
      · rw [hab.2, hsi] at h63
        exact absurd e h63
  rw [← hpath] at key
  unfold tailT
  refine ⟨by rw [List.length_append, data_len]; omega, ?_⟩
  rw [bt_left _ _ (by rw [data_len]; omega), mkT_of]
  exact key.2
theorem whole_ext (s : ByteArray) : s.extract 0 s.size = s := by simp
/-- The text of a target, without its method. -/
theorem take_conn {s : ByteArray} (h0 : ¬ s.size = 0) : parseT connT s = connR s := (if_neg h0).trans (if_pos rfl)
theorem take_slash {m s : ByteArray} (h0 : ¬ s.size = 0) (hm : ¬ m = connT) (h47 : bt s 0 = 47) : parseT m s = behindR ⟨1, ⟨#[]⟩, -1, ⟨#[]⟩, ⟨#[]⟩, false⟩ s 0 := (if_neg h0).trans ((if_neg hm).trans (if_pos h47))
theorem take_abs {m s : ByteArray} (h0 : ¬ s.size = 0) (hm : ¬ m = connT) (h47 : ¬ bt s 0 = 47) (hst : ¬ (s = starT ∧ m = optT)) (hh : ¬ (s.size < 7 ∨ lower (s.extract 0 7) ≠ httpT)) : parseT m s = absR s :=
  (if_neg h0).trans ((if_neg hm).trans ((if_neg h47).trans ((if_neg hst).trans (if_neg hh))))
/-- The signs of an authority's text: neither a slash nor a question mark ends it. -/
theorem port_free {p : Int} (hp : portOk p) : ∀ j, j < (portT p).length → bt (mkT (portT p)) j ≠ 47 ∧ bt (mkT (portT p)) j ≠ 63 := by
  intro j hj
  rcases hp with rfl | hp
  · simp [portT_void] at hj
  · rw [portT_some hp.1] at hj ⊢
    match j, hj with
    | 0, _ => exact ⟨by rw [mk_head]; decide, by rw [mk_head]; decide⟩
    | j + 1, hj =>
      have hj' : j < (Lib.itoa p).length := by simpa using hj
      have e : bt (mkT (58 :: Lib.itoa p)) (j + 1) = (((Lib.itoa p)[j]).toNat : Int) := by
        unfold bt
        rw [mkT_data, List.getD_eq_getElem?_getD, List.getElem?_cons_succ, List.getElem?_eq_getElem hj']
        rfl
      have := itoa_free hp.1 _ (List.getElem_mem hj')
      rw [e]
      omega
/-- THE FORM 2. -/
theorem abs_again {s h : ByteArray} {p : Int} {t : Tg} {j k : Nat} (h7 : 7 ≤ s.size) (hk : endA s 7 = k) (ha : authR (s.extract 7 k) = (h, p, 0)) (hb : behindR ⟨2, h, p, ⟨#[]⟩, ⟨#[]⟩, false⟩ s k = (t, j, 0))
    (hfree : ∀ i, i < h.size → bt h i ≠ 47 ∧ bt h i ≠ 63) :
    ∃ x, x = mkT (httpT.data.toList ++ h.data.toList ++ portT p ++ tailT t) ∧ ∀ m, ¬ m = connT → parseT m x = (t, 0, 0) := by
  obtain ⟨hp, hag⟩ := auth_again ha
  obtain ⟨s1, s2, s3, s4⟩ := endA_spec (s := s) (i := 7) h7
  rw [hk] at s1 s2 s3 s4
  obtain ⟨hl, hh⟩ := tail_head s2 hb s4
  refine ⟨_, rfl, fun m hm => ?_⟩
  have hreal : mkT (httpT.data.toList ++ h.data.toList ++ portT p ++ tailT t) = mkT (httpT.data.toList ++ ((h.data.toList ++ portT p) ++ tailT t)) := by
    rw [List.append_assoc, List.append_assoc, List.append_assoc]
  rw [hreal]
  generalize hA : h.data.toList ++ portT p = A at *
  have h7l : httpT.data.toList.length = 7 := by decide
  have hsz : (mkT (httpT.data.toList ++ (A ++ tailT t))).size = 7 + A.length + (tailT t).length := by rw [mkT_size, List.length_append, List.length_append, h7l]; omega
  have hAf : ∀ i, i < A.length → bt (mkT A) i ≠ 47 ∧ bt (mkT A) i ≠ 63 := by
    intro i hi
    rw [← hA] at hi ⊢
    have hlen := data_len h
    by_cases e : i < h.size
    · rw [bt_left _ _ (by omega), mkT_of]
      exact hfree i e
    · have := bt_right h.data.toList (portT p) (i - h.size)
      rw [hlen, show h.size + (i - h.size) = i by omega] at this
      rw [this]
      rw [List.length_append, hlen] at hi
      exact port_free hp _ (by omega)
  have hbt7 : ∀ i, bt (mkT (httpT.data.toList ++ (A ++ tailT t))) (7 + i) = bt (mkT (A ++ tailT t)) i := fun i => by
    have := bt_right httpT.data.toList (A ++ tailT t) i
    rwa [h7l] at this
  have hend : endA (mkT (httpT.data.toList ++ (A ++ tailT t))) 7 = 7 + A.length := by
    refine endA_at (by omega) (by omega) ?_ (.inl ?_)
    · intro i g1 g2
      have := hbt7 (i - 7)
      rw [show 7 + (i - 7) = i by omega] at this
      rw [this, bt_left _ _ (by omega)]
      exact hAf _ (by omega)
    · rw [hbt7]
      have := bt_right A (tailT t) 0
      rw [Nat.add_zero] at this
      rw [this]
      exact hh
  have hrest : (mkT (httpT.data.toList ++ (A ++ tailT t))).extract 7 (mkT (httpT.data.toList ++ (A ++ tailT t))).size = mkT (A ++ tailT t) := by
    have := mk_right httpT.data.toList (A ++ tailT t)
    rwa [h7l] at this
  have hauth : (mkT (httpT.data.toList ++ (A ++ tailT t))).extract 7 (7 + A.length) = mkT A := by
    rw [← ext_pre _ (by omega) (by omega), hrest, mk_left]
  have htail : (mkT (httpT.data.toList ++ (A ++ tailT t))).extract (7 + A.length) (mkT (httpT.data.toList ++ (A ++ tailT t))).size = mkT (tailT t) := by
    rw [← ext_ext, hrest, mk_right]
  have hpre : (mkT (httpT.data.toList ++ (A ++ tailT t))).extract 0 7 = httpT := by
    have := mk_left httpT.data.toList (A ++ tailT t)
    rwa [h7l, mkT_of] at this
  have hb0 : bt (mkT (httpT.data.toList ++ (A ++ tailT t))) 0 = 104 := by
    rw [bt_left _ _ (by rw [h7l]; omega)]
    decide
  rw [take_abs (by omega) hm (by omega) (fun e => by
    have : (mkT (httpT.data.toList ++ (A ++ tailT t))).size = 1 := by rw [e.1]; rfl
    omega) (by rintro (g | g)
               · omega
               · rw [hpre] at g; exact g http_lower)]
  unfold absR
  rw [hend, hauth, hag, if_pos rfl]
  exact tail_again s2 hb (by omega) htail
theorem auth_prefix {s h : ByteArray} {p : Int} (hs : authR s = (h, p, 0)) : ∃ n, n ≤ s.size ∧ h = lower (s.extract 0 n) := by
  have hbad : ¬ authBad = (h, p, 0) := fun e => by
    have : (52 : Int) = 0 := congrArg (fun r : ByteArray × Int × Int => r.2.2) e
    omega
  unfold authR at hs
  split at hs
  · split at hs
    · rename_i h2
      split at hs
      · split at hs
        · have e1 : lower s = h := congrArg (fun r => r.1) hs
          exact ⟨s.size, Nat.le_refl _, by rw [whole_ext]; exact e1.symm⟩
        · split at hs
          · exact ⟨_, by omega, (portR_form hs).1⟩
          · exact absurd hs hbad
      · exact absurd hs hbad
    · exact absurd hs hbad
  · split at hs
    · have h1 := (portR_form hs).1
      rcases place_spec s 58 with ⟨q, _⟩ | ⟨k, q, hk, _, _⟩
      · rw [cutW_miss q] at h1
        exact ⟨s.size, Nat.le_refl _, by rw [whole_ext]; exact h1⟩
      · rw [cutW_hit hk q] at h1
        exact ⟨k, by omega, h1⟩
    · exact absurd hs hbad
theorem low_free : ∀ n : Nat, n < 256 → (n ≠ 47 → ((lowB (UInt8.ofNat n)).toNat : Int) ≠ 47) ∧ (n ≠ 63 → ((lowB (UInt8.ofNat n)).toNat : Int) ≠ 63) := by decide +kernel
theorem auth_free {s h : ByteArray} {p : Int} (hs : authR s = (h, p, 0)) (hf : ∀ i, i < s.size → bt s i ≠ 47 ∧ bt s i ≠ 63) : h.size ≤ s.size ∧ ∀ i, i < h.size → bt h i ≠ 47 ∧ bt h i ≠ 63 := by
  obtain ⟨n, hn, rfl⟩ := auth_prefix hs
  have hz := ext_size s (a := 0) (b := n) (by omega) hn
  have hl := lower_size (s.extract 0 n)
  refine ⟨by omega, fun i hi => ?_⟩
  have hb := ext_bt s (a := 0) (b := n) (j := i) (by omega)
  rw [Nat.zero_add] at hb
  have h1 := hf i (by omega)
  have h2 := bt_nonneg s i
  have h3 := bt_lt s i
  rw [lower_bt _ (by omega), hb]
  have := low_free (bt s i).toNat (by omega)
  exact ⟨this.1 (by omega), this.2 (by omega)⟩
theorem port_len {p : Int} (hp : portOk p) : (portT p).length ≤ 6 := by
  rcases hp with rfl | hp
  · rw [portT_void]; exact Nat.zero_le _
  · have := dec_len (u := p.toNat) (by omega)
    rw [portT_some hp.1, itoa_nonneg hp.1, List.length_cons]
    omega
theorem tail_len {t0 t : Tg} {s : ByteArray} {i j : Nat} (hi : i ≤ s.size) (h : behindR t0 s i = (t, j, 0)) : (tailT t).length ≤ s.size + 2 := by
  obtain ⟨a, q, b, hc, rfl, _, _, _, _⟩ := rest_form hi h
  have hz := cutW_size (s.extract i s.size) 63
  rw [hc, ext_size s hi (Nat.le_refl _)] at hz
  obtain ⟨_, _, h3⟩ := hz
  have h3' : a.size + q.size ≤ s.size - i := h3
  unfold tailT queryT Tg.laid
  rw [List.length_append]
  have e1 : (if a.size = 0 then slashT else a).data.toList.length ≤ a.size + 1 := by
    by_cases ha : a.size = 0
    · rw [if_pos ha]; exact Nat.le_add_left _ _
    · rw [if_neg ha, data_len]; omega
  have e2 : (if b = true then 63 :: q.data.toList else []).length ≤ q.size + 1 := by
    cases b
    · exact Nat.zero_le _
    · rw [if_pos rfl, List.length_cons, data_len]; omega
  have := Nat.add_le_add e1 e2
  refine Nat.le_trans this ?_
  omega
/-- What a target that was read looks like. -/
def Shape (t : Tg) : Prop := (t.form = 1 ∧ t.port = -1) ∨ (t.form = 2 ∧ portOk t.port) ∨ (t.form = 3 ∧ (0 ≤ t.port ∧ t.port ≤ 65535) ∧ t.hasq = false) ∨ (t.form = 4 ∧ t.port = -1 ∧ t.hasq = false)
/-- A TARGET THAT WAS READ, PRINTED, READS AGAIN AS IT WAS: under its own method and under the printer's. -/
theorem back {m s : ByteArray} {t : Tg} {j : Nat} (h : parseT m s = (t, j, 0)) :
    Shape t ∧ parseT (textP t).1 (textP t).2 = (t, 0, 0) ∧ parseT m (textP t).2 = (t, 0, 0) ∧ (textP t).2.size ≤ 2 * s.size + 20 := by
  have e0 : ∀ (x : Tg) (n : Nat) (o : Int), o ≠ 0 → ¬ (x, n, o) = (t, j, 0) := fun x n o ho e => ho (congrArg (fun r : Tg × Nat × Int => r.2.2) e)
  have fin : ∀ (pm x : ByteArray), Shape t → textP t = (pm, x) → parseT pm x = (t, 0, 0) → parseT m x = (t, 0, 0) → x.size ≤ 2 * s.size + 20 → Shape t ∧ parseT (textP t).1 (textP t).2 = (t, 0, 0) ∧ parseT m (textP t).2 = (t, 0, 0) ∧ (textP t).2.size ≤ 2 * s.size + 20 := by
    intro pm x h0 h1 h2 h3 h4
    exact ⟨h0, by rw [h1]; exact h2, by rw [h1]; exact h3, by rw [h1]; exact h4⟩
  have hfull := h
  unfold parseT at h
  split at h
  · exact absurd h (e0 _ _ _ (by decide))
  · rename_i h0
    split at h
    · rename_i hm
      unfold connR at h
      split at h
      · rename_i hc
        have ha : authR s = ((authR s).1, (authR s).2.1, 0) := by rw [← hc.1]
        obtain ⟨hp, hag⟩ := auth_again ha
        obtain ⟨n, hn, hh⟩ := auth_prefix ha
        have hhz : (authR s).1.size ≤ s.size := by rw [hh, lower_size, ext_size s (by omega) hn]; omega
        have hpl := port_len hp
        generalize (authR s).1 = ho at *
        generalize (authR s).2.1 = p at *
        obtain rfl : t = ⟨3, ho, p, ⟨#[]⟩, ⟨#[]⟩, false⟩ := (congrArg (fun r : Tg × Nat × Int => r.1) h).symm
        have htx : textP ⟨3, ho, p, ⟨#[]⟩, ⟨#[]⟩, false⟩ = (connT, mkT (ho.data.toList ++ portT p)) := by
          unfold textP tailT queryT
          rw [if_neg (show ¬ (3 : Int) = 1 by decide), if_neg (show ¬ (3 : Int) = 2 by decide), if_pos rfl, if_neg (show ¬ (false = true) by decide)]
          show (connT, mkT (ho.data.toList ++ portT p ++ ([] ++ []))) = _
          rw [List.append_nil, List.append_nil]
        have hsz : (mkT (ho.data.toList ++ portT p)).size = ho.size + (portT p).length := by rw [mkT_size, List.length_append, data_len]
        have hpos : 0 < (portT p).length := by rw [portT_some hc.2, List.length_cons]; omega
        have hre : parseT connT (mkT (ho.data.toList ++ portT p)) = (⟨3, ho, p, ⟨#[]⟩, ⟨#[]⟩, false⟩, 0, 0) := by
          rw [take_conn (by omega)]
          unfold connR
          rw [hag, if_pos ⟨rfl, hc.2⟩]
        exact fin _ _ (.inr (.inr (.inl ⟨rfl, by have h := hc.2; unfold portOk at hp; show 0 ≤ p ∧ p ≤ 65535; omega, rfl⟩))) htx hre (by rw [hm]; exact hre) (by omega)
      · exact absurd h (e0 _ _ _ (by decide))
    · rename_i hm
      split at h
      · rename_i h47
        obtain ⟨g1, g2⟩ := tail_head (Nat.zero_le _) h (fun _ => .inl h47)
        have hlen := tail_len (Nat.zero_le _) h
        have hk := behindR_keeps _ _ _ (show (behindR ⟨1, ⟨#[]⟩, -1, ⟨#[]⟩, ⟨#[]⟩, false⟩ s 0).2.2 = 0 by rw [h])
        rw [h] at hk
        have htx : textP t = (getT, mkT (tailT t)) := if_pos hk.1
        have hre : ∀ m', ¬ m' = connT → parseT m' (mkT (tailT t)) = (t, 0, 0) := fun m' hm' => by
          rw [take_slash (by rw [mkT_size]; omega) hm' g2]
          exact tail_again (Nat.zero_le _) h (Nat.zero_le _) (whole_ext _)
        exact fin _ _ (.inl ⟨hk.1, hk.2.2.1⟩) htx (hre _ conn_ne.1) (hre _ hm) (by rw [mkT_size]; omega)
      · rename_i h47
        split at h
        · rename_i hst
          obtain rfl : t = ⟨4, ⟨#[]⟩, -1, ⟨#[]⟩, ⟨#[]⟩, false⟩ := (congrArg (fun r : Tg × Nat × Int => r.1) h).symm
          have htx : textP ⟨4, ⟨#[]⟩, -1, ⟨#[]⟩, ⟨#[]⟩, false⟩ = (optT, starT) := by
            unfold textP tailT queryT
            rw [if_neg (by decide), if_neg (by decide), if_neg (by decide), if_pos rfl]
            rfl
          exact fin _ _ (.inr (.inr (.inr ⟨rfl, rfl, rfl⟩))) htx parse_star (by rw [hst.2]; exact parse_star) (by rw [show starT.size = 1 from rfl]; omega)
        · split at h
          · exact absurd h (e0 _ _ _ (by decide))
          · rename_i hst hh
            have h7 : 7 ≤ s.size := by omega
            obtain ⟨s1, s2, s3, s4⟩ := endA_spec (s := s) (i := 7) h7
            have hform : t.form = 2 := by
              have := absR_form s (by rw [h])
              rw [h] at this
              exact this
            unfold absR at h
            split at h
            · rename_i hc
              have ha : authR (s.extract 7 (endA s 7)) = ((authR (s.extract 7 (endA s 7))).1, (authR (s.extract 7 (endA s 7))).2.1, 0) := by rw [← hc]
              have hez := ext_size s (a := 7) (b := endA s 7) s1 s2
              obtain ⟨f1, f2⟩ := auth_free ha (fun i hi => by
                rw [ext_bt s (by omega)]
                exact s3 _ (by omega) (by omega))
              obtain ⟨hp, _⟩ := auth_again ha
              have hpl := port_len hp
              have hlen := tail_len s2 h
              obtain ⟨x, hx, hre⟩ := abs_again h7 rfl ha h f2
              have hk := behindR_keeps _ _ _ (show (behindR _ s (endA s 7)).2.2 = 0 by rw [h])
              rw [h] at hk
              have htx : textP t = (getT, x) := by
                have h2 : t.host = (authR (s.extract 7 (endA s 7))).1 := hk.2.1
                have h3 : t.port = (authR (s.extract 7 (endA s 7))).2.1 := hk.2.2.1
                unfold textP
                rw [if_neg (by omega), if_pos hform, h2, h3, hx]
              have hxz : x.size = 7 + (authR (s.extract 7 (endA s 7))).1.size + (portT (authR (s.extract 7 (endA s 7))).2.1).length + (tailT t).length := by
                rw [hx, mkT_size, List.length_append, List.length_append, List.length_append, data_len, data_len]
                rfl
              exact fin _ _ (.inr (.inl ⟨hform, by rw [show t.port = _ from hk.2.2.1]; exact hp⟩)) htx (hre _ conn_ne.1) (hre _ hm) (by omega)
            · exact absurd h (e0 _ _ _ (by decide))
end Go.Proofs.YtjlnbjlhlglneaaGreatDoor
