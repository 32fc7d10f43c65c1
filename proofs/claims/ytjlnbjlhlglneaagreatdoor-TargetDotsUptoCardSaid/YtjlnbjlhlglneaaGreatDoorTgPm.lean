/-
  Plain laws: a segment down and up again; dots put in go out again.
-/
import Derived.Test.YtjlnbjlhlglneaaGreatDoorTgPl
namespace Go.Proofs.YtjlnbjlhlglneaaGreatDoor

theorem slash_app (a b : List ByteArray) : slashAll (a ++ b) = slashAll a ++ slashAll b := by simp [slashAll]
theorem slash_one (x : ByteArray) : slashAll [x] = 47 :: x.data.toList := by simp [slashAll]
theorem slash_uniq {s : ByteArray} {k : Nat} (hk : 0 < k) (hb : bt s (k - 1) = 47) : ∀ n : Nat, k ≤ n → (∀ j, k ≤ j → j < n → bt s j ≠ 47) → lastSlash s n = k
  | 0, h, _ => by omega
  | n + 1, h, hn => by
    unfold lastSlash
    split
    · rename_i e
      by_cases hkn : k ≤ n
      · exact absurd e (hn n hkn (by omega))
      · omega
    · rename_i e
      have hkn : k ≤ n := by
        rcases Nat.lt_or_ge n k with h1 | h1
        · obtain rfl : k = n + 1 := by omega
          rw [Nat.add_sub_cancel] at hb
          exact absurd hb e
        · exact h1
      exact slash_uniq hk hb n hkn (fun j h1 h2 => hn j h1 (by omega))
theorem last_of {s z : ByteArray} {a : List UInt8} (h : s.data.toList = a ++ 47 :: z.data.toList) (hz : Free z) : lastSlash s s.size = a.length + 1 := by
  have hs : s.size = a.length + (z.size + 1) := by rw [← size_eq, h, List.length_append, List.length_cons, size_eq]
  have hb : ∀ j, bt s (a.length + j) = (((47 :: z.data.toList).getD j 0).toNat : Int) := fun j => by
    unfold bt
    rw [h, List.getD_eq_getElem?_getD, List.getElem?_append_right (by omega), Nat.add_sub_cancel_left, List.getD_eq_getElem?_getD]
  refine slash_uniq (by omega) ?_ s.size (by omega) (fun j h1 h2 => ?_)
  · rw [Nat.add_sub_cancel]
    have := hb 0
    rw [Nat.add_zero] at this
    rw [this]
    rfl
  · have e := hb (j - a.length)
    rw [show a.length + (j - a.length) = j by omega, show j - a.length = (j - a.length - 1) + 1 by omega] at e
    rw [e]
    exact hz (j - a.length - 1) (by omega)
theorem head_of {s z : ByteArray} {a : List UInt8} (h : s.data.toList = a ++ 47 :: z.data.toList) (hz : Free z) : (s.extract 0 (lastSlash s s.size)).data.toList = a ++ [47] := by
  rw [last_of h hz, Lib.extract_data, List.drop_zero, Nat.sub_zero, h, show a ++ 47 :: z.data.toList = (a ++ [47]) ++ z.data.toList by simp, List.take_left' (by simp)]
/-- A reference of some segments, seen from a normal form. -/
theorem res_slash {n ref z : ByteArray} {ks l : List ByteArray} (hn : n.data.toList = slashAll (ks ++ [z])) (hks : ∀ x ∈ ks, Right x) (hz : Right z) (hl : ∀ x ∈ l, PL x.data.toList ∧ Free x) (hr : 47 :: ref.data.toList = slashAll l) (h0 : ¬ ref.size = 0) (h47 : ¬ bt ref 0 = 47) : resR n ref = (pathOf (keptR (ks ++ l)), 0) := by
  have hall : ∀ x ∈ ks ++ [z], Right x := fun x hx => by
    rcases List.mem_append.1 hx with h | h
    · exact hks x h
    · obtain rfl : x = z := by simpa using h
      exact hz
  obtain ⟨hp, _, _⟩ := norm_slash (by simp) (fun x hx => (hall x hx).pl) (fun x hx => (hall x hx).free) hn
  have hlne : l ≠ [] := fun e => by
    rw [e] at hr
    cases hr
  have hrp : PL ref.data.toList := by
    have h1 : PL (47 :: ref.data.toList) := by rw [hr]; exact slash_PL (fun x hx => (hl x hx).1)
    exact (h1.cut [] _ rfl).2
  have hst : pathStop ref = ref.size := hrp.stop 0 rfl (by omega)
  have hd : (n.extract 0 (lastSlash n n.size) ++ ref).data.toList = slashAll (ks ++ l) := by
    rw [add_data', head_of (by rw [hn, slash_app, slash_one]) hz.free, slash_app, ← hr]
    simp
  have h2 : ∀ x ∈ ks ++ l, PL x.data.toList ∧ Free x := fun x hx => by
    rcases List.mem_append.1 hx with h | h
    · exact ⟨(hks x h).pl, (hks x h).free⟩
    · exact hl x h
  obtain ⟨_, _, h3⟩ := norm_slash (t := n.extract 0 (lastSlash n n.size) ++ ref) (l := ks ++ l) (by simp [hlne]) (fun x hx => (h2 x hx).1) (fun x hx => (h2 x hx).2) hd
  unfold resR
  rw [if_pos ⟨hp, hst⟩, if_neg h0, if_neg h47, h3]
theorem encL_ge (l : List UInt8) : l.length ≤ (encL l).length := by
  induction l with
  | nil => exact Nat.le_refl _
  | cons b l ih =>
    have e : encL (b :: l) = encB b ++ encL l := rfl
    have := (encB_len b).1
    rw [e, List.length_append, List.length_cons]
    omega
theorem enc_fix : ∀ l : List UInt8, encL l = l → ∀ b ∈ l, unres (b.toNat : Int) = true
  | [], _, b, hb => by cases hb
  | x :: l, h, b, hb => by
    have e : encL (x :: l) = encB x ++ encL l := rfl
    cases hx : unres (x.toNat : Int)
    · have h2 := congrArg List.length h
      rw [e, List.length_append, List.length_cons] at h2
      have h3 : encB x = pct x := by unfold encB; rw [if_neg (by rw [hx]; simp)]
      have h4 : (pct x).length = 3 := rfl
      have h5 := encL_ge l
      rw [h3] at h2
      omega
    · have h3 : encB x = [x] := by unfold encB; rw [if_pos hx]
      rw [e, h3] at h
      injection h with _ h
      rcases List.mem_cons.1 hb with rfl | hb
      · exact hx
      · exact enc_fix l h b hb
theorem unres_PL : ∀ l : List UInt8, (∀ b ∈ l, unres (b.toNat : Int) = true) → PL l
  | [], _ => .nil
  | b :: l, h => .sign (unres_path (h b (by simp))) (unres_PL l fun x hx => h x (by simp [hx]))
theorem unres_free {x : ByteArray} (h : ∀ b ∈ x.data.toList, unres (b.toNat : Int) = true) : Free x := fun j hj e => by
  have hl : j < x.data.toList.length := by rw [size_eq]; exact hj
  have h1 := h _ (List.getElem_mem hl)
  unfold bt at e
  rw [List.getD_eq_getElem?_getD, List.getElem?_eq_getElem hl, Option.getD_some] at e
  rw [e, unres_47] at h1
  cases h1
theorem dot_ok : PL dotT.data.toList ∧ Free dotT := by
  have h : ∀ b ∈ dotT.data.toList, unres (b.toNat : Int) = true := by decide +kernel
  exact ⟨unres_PL _ h, unres_free h⟩
theorem dots_ok : PL dotsT.data.toList ∧ Free dotsT := by
  have h : ∀ b ∈ dotsT.data.toList, unres (b.toNat : Int) = true := by decide +kernel
  exact ⟨unres_PL _ h, unres_free h⟩
def xT : ByteArray := ⟨#[120]⟩
theorem x_ok : PL xT.data.toList ∧ Free xT ∧ isDots xT = false := by
  have h : ∀ b ∈ xT.data.toList, unres (b.toNat : Int) = true := by decide +kernel
  exact ⟨unres_PL _ h, unres_free h, by decide +kernel⟩
theorem keep_dot (k : List ByteArray) : keepOne k dotT = k := by unfold keepOne; rw [if_neg (by decide), if_pos rfl]
theorem keep_dots (k : List ByteArray) : keepOne k dotsT = k.dropLast := by unfold keepOne; rw [if_pos rfl]
theorem keep_other {k : List ByteArray} {x : ByteArray} (h : isDots x = false) : keepOne k x = k ++ [x] := by
  simp only [isDots, Bool.or_eq_false_iff, decide_eq_false_iff_not] at h
  unfold keepOne
  rw [if_neg h.2, if_neg h.1]
theorem keptR_snoc (l : List ByteArray) (x : ByteArray) : keptR (l ++ [x]) = if isDots x = true then keepOne (keepAll [] l) x ++ [⟨#[]⟩] else keepOne (keepAll [] l) x := by
  unfold keptR
  rw [lastDots_snoc, keepAll_snoc]
def upT : ByteArray := ⟨#[47, 46, 46]⟩
/-- A segment down and up again. -/
theorem steps {path name : ByteArray} (hp : isPathB path = true) (h0 : ¬ name.size = 0) (hd : isDots name = false) (he : enc name = name) :
    ∃ D : ByteArray, resR (normR path).1 dotT = (D, 0) ∧ resR (normR path).1 (name ++ upT) = (D, 0) ∧ resR (normR path).1 name = (D ++ name, 0) := by
  have hne := normSegs_ne path
  have hr := normSegs_right hp
  rw [normR_segs hp]
  have e := List.dropLast_concat_getLast hne
  generalize (normSegs path).getLast hne = z at e
  generalize (normSegs path).dropLast = ks at e
  rw [← e] at hr
  rw [← e]
  have hks : ∀ x ∈ ks, Right x := fun x hx => hr x (by simp [hx])
  have hz : Right z := hr z (by simp)
  have hkd : ∀ x ∈ ks, isDots x = false := fun x hx => (hks x hx).dots
  have hka : keepAll [] ks = ks := (keep_right ks [] hkd).trans (List.nil_append _)
  have hn : (pathOf (ks ++ [z])).data.toList = slashAll (ks ++ [z]) := pathOf_data (by simp)
  have hun := enc_fix name.data.toList (by have := congrArg (fun s : ByteArray => s.data.toList) he; exact this)
  have hnp : PL name.data.toList ∧ Free name := ⟨unres_PL _ hun, unres_free hun⟩
  have h47 : ¬ bt name 0 = 47 := hnp.2 0 (by omega)
  have hnz : 0 < name.size := by omega
  refine ⟨pathOf (ks ++ [⟨#[]⟩]), ?_, ?_, ?_⟩
  · show resR (pathOf (ks ++ [z])) dotT = _
    rw [res_slash hn hks hz (l := [dotT]) (fun x hx => by rw [List.mem_singleton.1 hx]; exact dot_ok) (by rw [slash_one]) (by decide) (by decide)]
    rw [keptR_snoc, hka, keep_dot, if_pos (by decide)]
  · show resR (pathOf (ks ++ [z])) (name ++ upT) = _
    rw [res_slash hn hks hz (l := [name, dotsT]) (fun x hx => by
      rcases List.mem_cons.1 hx with rfl | hx
      · exact hnp
      · obtain rfl : x = dotsT := by simpa using hx
        exact dots_ok) (by
      rw [add_data']
      show _ = slashAll ([name] ++ [dotsT])
      rw [slash_app, slash_one, slash_one]
      rfl) (by rw [add_size]; omega) (by rw [bt_left hnz]; exact h47)]
    rw [show ks ++ [name, dotsT] = (ks ++ [name]) ++ [dotsT] by simp, keptR_snoc, keepAll_snoc, hka, keep_other hd, keep_dots, if_pos (by decide)]
    simp
  · show resR (pathOf (ks ++ [z])) name = _
    rw [res_slash hn hks hz (l := [name]) (fun x hx => by rw [List.mem_singleton.1 hx]; exact hnp) (by rw [slash_one]) h0 h47]
    rw [keptR_snoc, hka, keep_other hd, if_neg (by rw [hd]; simp)]
    congr 1
    apply mk_eq
    rw [pathOf_data (by simp), add_data', pathOf_data (by simp), slash_app, slash_app, slash_one, slash_one]
    simp
/-- A normal form is its own. -/
theorem norm_same {path : ByteArray} (hp : isPathB path = true) : normR (normR path).1 = ((normR path).1, 0) := by
  rw [normR_segs hp]
  have hne := normSegs_ne path
  have hr := normSegs_right hp
  show normR (pathOf (normSegs path)) = (pathOf (normSegs path), 0)
  obtain ⟨_, _, h⟩ := norm_slash hne (fun x hx => (hr x hx).pl) (fun x hx => (hr x hx).free) (pathOf_data hne)
  rw [h, keptR_same hne (fun x hx => (hr x hx).dots)]
theorem dec_right {x : ByteArray} (h : Right x) : isDots (decR x).1 = false := by
  obtain ⟨d, h1, _, h3, h4⟩ := h.pl.dec 0 rfl (by omega)
  have e : (decR x).1 = ⟨d.toArray⟩ := by
    unfold decR
    rw [h1 []]
    rfl
  have hd := h.dots
  simp only [isDots, Bool.or_eq_false_iff, decide_eq_false_iff_not] at hd ⊢
  rw [e]
  refine ⟨fun e1 => hd.1 (mk_eq (h3 (by have := congrArg (fun s : ByteArray => s.data.toList) e1; simpa [dotT] using this))), fun e1 => hd.2 (mk_eq (h4 (by have := congrArg (fun s : ByteArray => s.data.toList) e1; simpa [dotsT] using this)))⟩
theorem seg_dots {path : ByteArray} (hp : isPathB path = true) : (segR (normR path).1).2 = 0 ∧ ∀ x ∈ (segR (normR path).1).1, isDots x = false := by
  rw [normR_segs hp]
  have hne := normSegs_ne path
  have hr := normSegs_right hp
  obtain ⟨h1, h2, _⟩ := norm_slash hne (fun x hx => (hr x hx).pl) (fun x hx => (hr x hx).free) (pathOf_data hne)
  show (segR (pathOf (normSegs path))).2 = 0 ∧ ∀ x ∈ (segR (pathOf (normSegs path))).1, isDots x = false
  unfold segR
  rw [if_pos h1, h2]
  refine ⟨rfl, fun x hx => ?_⟩
  obtain ⟨y, hy, rfl⟩ := List.mem_map.1 hx
  exact dec_right (hr y hy)
theorem slash_cut : ∀ (l : List ByteArray) (a b : List UInt8), (∀ x ∈ l, Free x) → slashAll l = a ++ 47 :: b → ∃ k1 k2, l = k1 ++ k2 ∧ slashAll k1 = a ∧ slashAll k2 = 47 :: b
  | [], a, b, _, h => by cases a <;> cases h
  | x :: l, a, b, hf, h => by
    have e : slashAll (x :: l) = 47 :: (x.data.toList ++ slashAll l) := rfl
    cases a with
    | nil => exact ⟨[], x :: l, rfl, rfl, h⟩
    | cons p a =>
      rw [e] at h
      injection h with h1 h
      have hx := free_mem (hf x (by simp))
      have key : ∃ c, a = x.data.toList ++ c ∧ slashAll l = c ++ 47 :: b := by
        rcases List.append_eq_append_iff.1 h with ⟨c, h2, h3⟩ | ⟨c, h2, h3⟩
        · exact ⟨c, h2, h3⟩
        · cases c with
          | nil => exact ⟨[], by rw [h2]; simp, by simpa using h3.symm⟩
          | cons q c =>
            injection h3 with h4 _
            exact absurd (by rw [h2, ← h4]; simp) hx
      obtain ⟨c, h2, h3⟩ := key
      obtain ⟨k1, k2, g1, g2, g3⟩ := slash_cut l c b (fun y hy => hf y (by simp [hy])) h3
      refine ⟨x :: k1, k2, by rw [g1]; rfl, ?_, g3⟩
      have e2 : slashAll (x :: k1) = 47 :: (x.data.toList ++ slashAll k1) := rfl
      rw [e2, g2, h2, h1]
/-- Dots put in go out again. -/
theorem dots_out {n : ByteArray} {kept : List ByteArray} (hg : pathOf kept = n) (hne : kept ≠ []) (hr : ∀ x ∈ kept, Right x) {i : Nat} (hi : i < n.size) (hb : bt n i = 47) :
    normR ((n.extract 0 i ++ ⟨#[47, 46]⟩) ++ n.extract i n.size) = (n, 0) ∧ normR ((n.extract 0 i ++ ⟨#[47, 120, 47, 46, 46]⟩) ++ n.extract i n.size) = (n, 0) := by
  have hn : n.data.toList = slashAll kept := by rw [← hg]; exact pathOf_data hne
  have hil : i < n.data.toList.length := by rw [size_eq]; exact hi
  have h47 : n.data.toList[i] = 47 := by
    apply UInt8.toNat_inj.1
    unfold bt at hb
    rw [List.getD_eq_getElem?_getD, List.getElem?_eq_getElem hil] at hb
    exact Int.ofNat.inj hb
  have hdr : n.data.toList.drop i = 47 :: n.data.toList.drop (i + 1) := by rw [List.drop_eq_getElem_cons hil, h47]
  have hsp : slashAll kept = n.data.toList.take i ++ 47 :: n.data.toList.drop (i + 1) := by rw [← hn, ← hdr, List.take_append_drop]
  obtain ⟨k1, k2, g1, g2, g3⟩ := slash_cut kept _ _ (fun x hx => (hr x hx).free) hsp
  have hk2 : k2 ≠ [] := fun e => by
    rw [e] at g3
    cases g3
  have r1 : ∀ x ∈ k1, Right x := fun x hx => hr x (by rw [g1]; simp [hx])
  have r2 : ∀ x ∈ k2, Right x := fun x hx => hr x (by rw [g1]; simp [hx])
  have d1 : keepAll [] k1 = k1 := (keep_right k1 [] (fun x hx => (r1 x hx).dots)).trans (List.nil_append _)
  have hlast : ∀ m : List ByteArray, keepAll [] m = k1 → keptR (m ++ k2) = kept := fun m hm => by
    have e2 := List.dropLast_concat_getLast hk2
    have hz := (r2 _ (List.getLast_mem hk2)).dots
    have hld : lastDots false (m ++ k2) = false := by
      rw [← e2, ← List.append_assoc, lastDots_snoc]
      exact hz
    unfold keptR
    rw [if_neg (by rw [hld]; simp), keepAll_app, hm, keep_right k2 k1 (fun x hx => (r2 x hx).dots), g1]
  have ht1 : (n.extract 0 i).data.toList = slashAll k1 := by rw [Lib.extract_data, List.drop_zero, Nat.sub_zero, g2]
  have ht2 : (n.extract i n.size).data.toList = slashAll k2 := by rw [ext_all, hdr, g3]
  have hok : ∀ m : List ByteArray, (∀ x ∈ m, PL x.data.toList ∧ Free x) → ∀ t : ByteArray, t.data.toList = slashAll (k1 ++ m ++ k2) → keepAll [] (k1 ++ m) = k1 → normR t = (n, 0) := fun m hm t ht hkm => by
    have hall : ∀ x ∈ k1 ++ m ++ k2, PL x.data.toList ∧ Free x := fun x hx => by
      rcases List.mem_append.1 hx with hx | hx
      · rcases List.mem_append.1 hx with hx | hx
        · exact ⟨(r1 x hx).pl, (r1 x hx).free⟩
        · exact hm x hx
      · exact ⟨(r2 x hx).pl, (r2 x hx).free⟩
    obtain ⟨_, _, h⟩ := norm_slash (by simp [hk2]) (fun x hx => (hall x hx).1) (fun x hx => (hall x hx).2) ht
    rw [h, hlast _ hkm, hg]
  constructor
  · refine hok [dotT] (fun x hx => by rw [List.mem_singleton.1 hx]; exact dot_ok) _ ?_ (by rw [keepAll_snoc, d1, keep_dot])
    rw [add_data', add_data', ht1, ht2, slash_app, slash_app, slash_one]
    rfl
  · refine hok [xT, dotsT] (fun x hx => by
      rcases List.mem_cons.1 hx with rfl | hx
      · exact ⟨x_ok.1, x_ok.2.1⟩
      · obtain rfl : x = dotsT := by simpa using hx
        exact dots_ok) _ ?_ (by rw [show k1 ++ [xT, dotsT] = (k1 ++ [xT]) ++ [dotsT] by simp, keepAll_snoc, keepAll_snoc, d1, keep_other x_ok.2.2, keep_dots]; simp)
    rw [add_data', add_data', ht1, ht2, slash_app, slash_app, show slashAll [xT, dotsT] = slashAll ([xT] ++ [dotsT]) from rfl, slash_app, slash_one, slash_one]
    rfl
end Go.Proofs.YtjlnbjlhlglneaaGreatDoor
