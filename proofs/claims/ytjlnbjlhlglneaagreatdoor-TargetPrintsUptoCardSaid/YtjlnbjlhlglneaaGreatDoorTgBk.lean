/-
  Plain words: a target that was read, printed, reads again as it was.
-/
import Derived.Test.YtjlnbjlhlglneaaGreatDoorTgA
import Derived.Test.YtjlnbjlhlglneaaGreatDoorTgB
namespace Go.Proofs.YtjlnbjlhlglneaaGreatDoor

section
variable (a b : List UInt8)
theorem mk_left : (mkT (a ++ b)).extract 0 a.length = mkT a := by
  apply bytes_ext
  rw [Lib.extract_data, mkT_data, mkT_data, List.drop_zero, Nat.sub_zero, List.take_left]
theorem mk_right : (mkT (a ++ b)).extract a.length (mkT (a ++ b)).size = mkT b := by
  apply bytes_ext
  rw [Lib.extract_data, mkT_data, mkT_data, mkT_size, List.drop_left, List.length_append, Nat.add_sub_cancel_left, List.take_length]
theorem bt_left {j : Nat} (h : j < a.length) : bt (mkT (a ++ b)) j = bt (mkT a) j := by
  unfold bt
  rw [mkT_data, mkT_data, List.getD_eq_getElem?_getD, List.getD_eq_getElem?_getD, List.getElem?_append_left h]
theorem bt_right (j : Nat) : bt (mkT (a ++ b)) (a.length + j) = bt (mkT b) j := by
  unfold bt
  rw [mkT_data, mkT_data, List.getD_eq_getElem?_getD, List.getD_eq_getElem?_getD, List.getElem?_append_right (by omega), Nat.add_sub_cancel_left]
end
theorem mk_head (x : UInt8) (b : List UInt8) : bt (mkT (x :: b)) 0 = (x.toNat : Int) := rfl
theorem mk_tail (x : UInt8) (b : List UInt8) : (mkT (x :: b)).extract 1 (mkT (x :: b)).size = mkT b := mk_right [x] b
/-- What a port is. -/
def portOk (p : Int) : Prop := p = -1 ∨ (0 ≤ p ∧ p ≤ 65535)
theorem portR_form {x y h : ByteArray} {p : Int} (hr : portR x y = (h, p, 0)) : h = lower x ∧ portOk p := by
  unfold portR at hr
  have hbad : ¬ authBad = (h, p, 0) := fun e => by
    have : (52 : Int) = 0 := congrArg (fun r : ByteArray × Int × Int => r.2.2) e
    omega
  split at hr
  · exact absurd hr hbad
  · split at hr
    · have h1 : lower x = h := congrArg (fun r => r.1) hr
      have h2 : (-1 : Int) = p := congrArg (fun r => r.2.1) hr
      exact ⟨h1.symm, .inl h2.symm⟩
    · split at hr
      · have h1 : lower x = h := congrArg (fun r => r.1) hr
        have h2 : (numR y 65535 10).1 = p := congrArg (fun r => r.2.1) hr
        exact ⟨h1.symm, .inr (h2 ▸ numR_port)⟩
      · exact absurd hr hbad
theorem portR_again (x : ByteArray) {p : Int} (hp : 0 ≤ p ∧ p ≤ 65535) : portR x (mkT (Lib.itoa p)) = (lower x, p, 0) := by
  have h := dec_len (u := p.toNat) (by omega)
  have hn := numR_itoa hp.1 hp.2
  have hz : (mkT (Lib.itoa p)).size = (Lib.decDigits p.toNat).length := by rw [mkT_size, itoa_nonneg hp.1]
  unfold portR
  rw [if_neg (by omega), if_neg (by omega), hn, if_pos rfl]
theorem portR_void (x : ByteArray) : portR x (mkT []) = (lower x, -1, 0) := rfl
theorem portT_void : portT (-1) = [] := rfl
theorem portT_some {p : Int} (hp : 0 ≤ p) : portT p = 58 :: Lib.itoa p := by unfold portT; rw [if_neg (by omega)]
theorem mk_self (h : ByteArray) : mkT (h.data.toList ++ []) = h := by rw [List.append_nil]; exact mkT_of h
theorem data_len (h : ByteArray) : h.data.toList.length = h.size := size_eq h
/-- A name, small, with its port. -/
theorem name_again {n : ByteArray} {p : Int} (hn : isNameH n = true) (h91 : bt n 0 ≠ 91) (h58 : ∀ j, j < n.size → bt n j ≠ 58) (hp : portOk p) : authR (mkT ((lower n).data.toList ++ portT p)) = (lower n, p, 0) := by
  have hz := lower_size n
  have hpos : 0 < n.size := by
    unfold isNameH at hn
    rw [Bool.and_eq_true, decide_eq_true_eq] at hn
    exact hn.1
  have hl58 : ∀ j, j < (lower n).size → bt (lower n) j ≠ 58 := fun j hj e => h58 j (by omega) ((low58 n j (by omega)).1 e)
  have hl91 : bt (lower n) 0 ≠ 91 := fun e => h91 ((low_at n hpos).2.2.2.1.1 e)
  have hln : isNameH (lower n) = true := by rw [lower_name]; exact hn
  have hll : lower (lower n) = lower n := lower_lower n
  generalize lower n = h at *
  have hlen := data_len h
  have hno : ∀ r, ¬ (0 < (mkT (h.data.toList ++ r)).size ∧ bt (mkT (h.data.toList ++ r)) 0 = 91) := by
    rintro r ⟨_, e⟩
    rw [bt_left _ _ (by omega), mkT_of] at e
    exact hl91 e
  unfold authR
  rw [if_neg (hno _)]
  rcases hp with rfl | hp
  · rw [portT_void, mk_self, cutW_miss (place_none hl58), if_pos hln]
    show portR h (mkT []) = _
    rw [portR_void, hll]
  · have hpl : place (mkT (h.data.toList ++ portT p)) 58 = h.size := by
      refine place_at ?_ ?_ ?_
      · rw [mkT_size, List.length_append, hlen, portT_some hp.1]; simp
      · have := bt_right h.data.toList (portT p) 0
        rw [Nat.add_zero, hlen] at this
        rw [this, portT_some hp.1]; rfl
      · intro j hj
        rw [bt_left _ _ (by omega), mkT_of]
        exact hl58 j hj
    have hlt : h.size < (mkT (h.data.toList ++ portT p)).size := by rw [mkT_size, List.length_append, hlen, portT_some hp.1]; simp
    rw [cutW_hit hlt hpl]
    have e1 : (mkT (h.data.toList ++ portT p)).extract 0 h.size = h := by rw [← hlen, mk_left, mkT_of]
    have e2 : (mkT (h.data.toList ++ portT p)).extract (h.size + 1) (mkT (h.data.toList ++ portT p)).size = mkT (Lib.itoa p) := by
      rw [← ext_ext, ← hlen, mk_right, portT_some hp.1, mk_tail]
    rw [e1, e2, if_pos hln]
    rw [portR_again _ hp, hll]
/-- An address, small, with its port. -/
theorem addr_again {n : ByteArray} {p : Int} {k : Nat} (hk : n.size = k + 1) (h0 : bt n 0 = 91) (hpl : place n 93 = k) (ha : isAddr (n.extract 1 k) = true) (hp : portOk p) : authR (mkT ((lower n).data.toList ++ portT p)) = (lower n, p, 0) := by
  have hz := lower_size n
  have h93 : ∀ j, j < n.size → (bt (lower n) j = 93 ↔ bt n j = 93) := fun j hj => (low_at n hj).2.2.2.2.1
  have hl91 : bt (lower n) 0 = 91 := (low_at n (by omega)).2.2.2.1.2 h0
  have hlp : place (lower n) 93 = k := by rw [lower_place n h93]; exact hpl
  have hla : isAddr ((lower n).extract 1 k) = true := by rw [← lower_ext]; exact addr_lower ha
  have hll : lower (lower n) = lower n := lower_lower n
  rw [hk] at hz
  generalize lower n = h at *
  have hlen := data_len h
  have hlk : bt h k = 93 ∧ ∀ j, j < k → bt h j ≠ 93 := by
    rcases place_spec h 93 with ⟨e, _⟩ | ⟨q, e, _, hb, hn⟩
    · omega
    · obtain rfl : q = k := by omega
      exact ⟨hb, hn⟩
  have hbl : ∀ r j, j < h.size → bt (mkT (h.data.toList ++ r)) j = bt h j := fun r j hj => by rw [bt_left _ _ (by omega), mkT_of]
  have hsz : ∀ r : List UInt8, (mkT (h.data.toList ++ r)).size = h.size + r.length := fun r => by rw [mkT_size, List.length_append, hlen]
  have hpl2 : ∀ r, place (mkT (h.data.toList ++ r)) 93 = k := fun r => place_at (by rw [hsz]; omega) (by rw [hbl _ _ (by omega)]; exact hlk.1) (fun j hj => by rw [hbl _ _ (by omega)]; exact hlk.2 j hj)
  have hin : ∀ r, (mkT (h.data.toList ++ r)).extract 1 k = h.extract 1 k := fun r => by
    apply bytes_ext
    rw [Lib.extract_data, Lib.extract_data, mkT_data, List.drop_append_of_le_length (by omega), List.take_append_of_le_length (by rw [List.length_drop]; omega)]
  unfold authR
  rw [if_pos ⟨by rw [hsz]; omega, by rw [hbl _ _ (by omega)]; exact hl91⟩, hpl2, if_pos (by rw [hsz]; omega), hin, if_pos hla]
  rcases hp with rfl | hp
  · rw [portT_void, mk_self, if_pos (by omega), hll]
  · have hl : (portT p).length = 1 + (Lib.itoa p).length := by rw [portT_some hp.1, List.length_cons]; omega
    rw [if_neg (by rw [hsz]; omega)]
    have e58 : bt (mkT (h.data.toList ++ portT p)) (k + 1) = 58 := by
      have := bt_right h.data.toList (portT p) 0
      rw [Nat.add_zero, hlen, hz] at this
      rw [this, portT_some hp.1]; rfl
    rw [if_pos e58]
    have e1 : (mkT (h.data.toList ++ portT p)).extract 0 (k + 1) = h := by rw [← hz, ← hlen, mk_left, mkT_of]
    have e2 : (mkT (h.data.toList ++ portT p)).extract (k + 2) (mkT (h.data.toList ++ portT p)).size = mkT (Lib.itoa p) := by
      rw [show k + 2 = h.size + 1 by omega, ← ext_ext, ← hlen, mk_right, portT_some hp.1, mk_tail]
    rw [e1, e2, portR_again _ hp, hll]
/-- AN AUTHORITY THAT WAS READ, PRINTED, READS AGAIN. -/
theorem auth_again {s h : ByteArray} {p : Int} (hs : authR s = (h, p, 0)) : portOk p ∧ authR (mkT (h.data.toList ++ portT p)) = (h, p, 0) := by
  have hbad : ¬ authBad = (h, p, 0) := fun e => by
    have : (52 : Int) = 0 := congrArg (fun r : ByteArray × Int × Int => r.2.2) e
    omega
  unfold authR at hs
  split at hs
  · rename_i h1
    split at hs
    · rename_i h2
      split at hs
      · rename_i h3
        have hsp : ∃ k, place s 93 = k ∧ bt s k = 93 ∧ ∀ j, j < k → bt s j ≠ 93 := by
          rcases place_spec s 93 with ⟨e, _⟩ | ⟨k, e, _, hb, hn⟩
          · omega
          · exact ⟨k, e, hb, hn⟩
        obtain ⟨k, hk, hb, hn⟩ := hsp
        rw [hk] at hs h2 h3
        have hz := ext_size s (a := 0) (b := k + 1) (by omega) (by omega)
        have hbe : ∀ j, j < k + 1 → bt (s.extract 0 (k + 1)) j = bt s j := fun j hj => by
          have := ext_bt s (a := 0) (b := k + 1) (j := j) (by omega)
          rwa [Nat.zero_add] at this
        have hadd : isAddr ((s.extract 0 (k + 1)).extract 1 k) = true := by
          have : (s.extract 0 (k + 1)).extract 1 k = s.extract 1 k := by
            apply bytes_ext
            rw [Lib.extract_data, Lib.extract_data, Lib.extract_data, List.drop_zero, List.drop_take, List.take_take]
            congr 1
            omega
          rw [this]; exact h3
        have again : ∀ q, portOk q → authR (mkT ((lower (s.extract 0 (k + 1))).data.toList ++ portT q)) = (lower (s.extract 0 (k + 1)), q, 0) := fun q hq =>
          addr_again (k := k) (by omega) (by rw [hbe 0 (by omega)]; exact h1.2) (place_at (by omega) (by rw [hbe k (by omega)]; exact hb) (fun j hj => by rw [hbe j (by omega)]; exact hn j hj)) hadd hq
        split at hs
        · rename_i h4
          have e1 : lower s = h := congrArg (fun r => r.1) hs
          have e2 : (-1 : Int) = p := congrArg (fun r => r.2.1) hs
          have e3 : s.extract 0 (k + 1) = s := by rw [h4]; simp
          rw [e3] at again
          rw [← e1, ← e2]
          exact ⟨.inl rfl, again _ (.inl rfl)⟩
        · split at hs
          · obtain ⟨rfl, hp⟩ := portR_form hs
            exact ⟨hp, again p hp⟩
          · exact absurd hs hbad
      · exact absurd hs hbad
    · exact absurd hs hbad
  · rename_i h1
    split at hs
    · rename_i h2
      obtain ⟨rfl, hp⟩ := portR_form hs
      refine ⟨hp, name_again h2 ?_ ?_ hp⟩
      · intro e
        have hpos : 0 < (cutW s 58).1.size := by
          unfold isNameH at h2
          rw [Bool.and_eq_true, decide_eq_true_eq] at h2
          exact h2.1
        rcases place_spec s 58 with ⟨q, _⟩ | ⟨k, q, hk, _, _⟩
        · rw [cutW_miss q] at e hpos
          exact h1 ⟨hpos, e⟩
        · rw [cutW_hit hk q] at e hpos
          have hz := ext_size s (a := 0) (b := k) (by omega) (by omega)
          have hpos' : 0 < (s.extract 0 k).size := hpos
          have := ext_bt s (a := 0) (b := k) (j := 0) (by omega)
          rw [Nat.zero_add] at this
          exact h1 ⟨by omega, this.symm.trans e⟩
      · intro j hj
        rcases place_spec s 58 with ⟨q, hn⟩ | ⟨k, q, hk, _, hn⟩
        · rw [cutW_miss q] at hj ⊢
          exact hn j hj
        · rw [cutW_hit hk q] at hj ⊢
          have hz := ext_size s (a := 0) (b := k) (by omega) (by omega)
          have hj' : j < (s.extract 0 k).size := hj
          have := ext_bt s (a := 0) (b := k) (j := j) (by omega)
          rw [Nat.zero_add] at this
          show bt (s.extract 0 k) j ≠ 58
          rw [this]
          exact hn j (by omega)
    · exact absurd hs hbad
end Go.Proofs.YtjlnbjlhlglneaaGreatDoor
