/-
  Plain laws: a target that was read is printed, and read again as the same.
-/
import Derived.Test.YtjlnbjlhlglneaaGreatDoorTgB
namespace Go.Proofs.YtjlnbjlhlglneaaGreatDoor

/-! Small letters. -/
theorem low_tab : ∀ n : Nat, n < 256 → (digV ((lowB (UInt8.ofNat n)).toNat : Int) = digV n ∧ hostSign ((lowB (UInt8.ofNat n)).toNat : Int) = hostSign n) ∧ (((lowB (UInt8.ofNat n)).toNat = 37 ↔ n = 37) ∧ ((lowB (UInt8.ofNat n)).toNat = 58 ↔ n = 58) ∧ ((lowB (UInt8.ofNat n)).toNat = 91 ↔ n = 91) ∧ ((lowB (UInt8.ofNat n)).toNat = 93 ↔ n = 93) ∧ ((lowB (UInt8.ofNat n)).toNat = 46 ↔ n = 46)) ∧ lowB (lowB (UInt8.ofNat n)) = lowB (UInt8.ofNat n) := by decide +kernel
section
variable (s : ByteArray) {i : Nat}
theorem low_at (h : i < s.size) : (digV (bt (lower s) i) = digV (bt s i) ∧ hostSign (bt (lower s) i) = hostSign (bt s i)) ∧ ((bt (lower s) i = 37 ↔ bt s i = 37) ∧ (bt (lower s) i = 58 ↔ bt s i = 58) ∧ (bt (lower s) i = 91 ↔ bt s i = 91) ∧ (bt (lower s) i = 93 ↔ bt s i = 93) ∧ (bt (lower s) i = 46 ↔ bt s i = 46)) := by
  have h0 := bt_nonneg s i
  have h1 := bt_lt s i
  rw [lower_bt s h]
  obtain ⟨n, hn⟩ := Int.eq_ofNat_of_zero_le h0
  rw [hn] at h1 ⊢
  obtain ⟨⟨a, b⟩, ⟨c, d, e, f, g⟩, _⟩ := low_tab n (by omega)
  rw [Int.toNat_natCast]
  exact ⟨⟨a, b⟩, ⟨by omega, by omega, by omega, by omega, by omega⟩⟩
theorem lower_lower : lower (lower s) = lower s := by
  apply bytes_ext
  show (s.data.toList.map lowB).map lowB = s.data.toList.map lowB
  rw [List.map_map]
  refine List.map_congr_left fun b _ => ?_
  have := (low_tab b.toNat b.toNat_lt).2.2
  rw [UInt8.ofNat_toNat] at this
  exact this
theorem lower_ext (a b : Nat) : lower (s.extract a b) = (lower s).extract a b := by
  apply bytes_ext
  show (s.extract a b).data.toList.map lowB = _
  rw [Lib.extract_data, Lib.extract_data, List.map_take, List.map_drop]
  rfl
theorem lower_place {c : Int} (hc : ∀ i, i < s.size → (bt (lower s) i = c ↔ bt s i = c)) : place (lower s) c = place s c := by
  have hz := lower_size s
  rcases place_spec s c with ⟨h, hn⟩ | ⟨k, h, hk, hb, hn⟩
  · rw [h, place_none (s := lower s), hz]
    intro j hj
    exact fun e => hn j (by omega) ((hc j (by omega)).1 e)
  · rw [h]
    exact place_at (by omega) ((hc k hk).2 hb) fun j hj e => hn j hj ((hc j (by omega)).1 e)
theorem lower_tri : tri (lower s) i = tri s i := by
  have hz := lower_size s
  by_cases h : i + 2 < s.size
  · have h0 := (low_at s (show i < s.size by omega)).2.1
    have h1 := (low_at s (show i + 1 < s.size by omega)).1.1
    have h2 := (low_at s h).1.1
    rw [Bool.eq_iff_iff, tri_iff, tri_iff, hz, h0, h1, h2]
  · rw [tri_short (by omega), tri_short (by omega)]
theorem lower_stop : ∀ (n i : Nat), s.size - i ≤ n → stopF hostSign (lower s) i = stopF hostSign s i
  | n, i, hn => by
    have hz := lower_size s
    by_cases hlt : i < s.size
    · rw [stopF_step hlt, stopF_step (show i < (lower s).size by omega), lower_tri, (low_at s hlt).1.2]
      match n, hn with
      | 0, hn => omega
      | n + 1, hn => rw [lower_stop n (i + 3) (by omega), lower_stop n (i + 1) (by omega)]
    · rw [stopF_end (by omega), stopF_end (by omega)]
end
theorem lower_name (s : ByteArray) : isNameH (lower s) = isNameH s := by
  unfold isNameH hostStop
  rw [lower_size, lower_stop s s.size 0 (by omega)]
theorem lower_split {c : Int} : ∀ (n : Nat) (s : ByteArray), s.size ≤ n → (∀ (t : ByteArray) i, i < t.size → (bt (lower t) i = c ↔ bt t i = c)) → splitC (lower s) c = (splitC s c).map lower
  | n, s, hn, hc => by
    have hz := lower_size s
    have hp := lower_place s (hc s)
    rcases place_spec s c with ⟨h, _⟩ | ⟨k, h, hk, _⟩
    · rw [splitC_miss h, splitC_miss (by omega)]
      rfl
    · rw [splitC_hit hk h, splitC_hit (show k < (lower s).size by omega) (by omega), List.map_cons, lower_ext, hz, ← lower_ext s (k + 1) s.size]
      have hz2 := ext_size s (a := k + 1) (b := s.size) (by omega) (Nat.le_refl _)
      match n, hn with
      | 0, hn => omega
      | n + 1, hn => rw [lower_split n (s.extract (k + 1) s.size) (by omega) hc]
theorem low58 (t : ByteArray) (i : Nat) (h : i < t.size) : bt (lower t) i = 58 ↔ bt t i = 58 := (low_at t h).2.2.1
theorem low46 (t : ByteArray) (i : Nat) (h : i < t.size) : bt (lower t) i = 46 ↔ bt t i = 46 := (low_at t h).2.2.2.2.2
theorem hexB_lower (s : ByteArray) : allB isHexB (lower s) = allB isHexB s := by
  have hz := lower_size s
  cases e : allB isHexB s
  · cases e2 : allB isHexB (lower s)
    · rfl
    · have : allB isHexB s = true := allB_true fun j hj => by
        have := allB_at e2 j (by omega)
        unfold isHexB at *
        rw [(low_at s hj).1.1] at this
        exact this
      rw [this] at e; cases e
  · exact allB_true fun j hj => by
      have := allB_at e j (by omega)
      unfold isHexB at *
      rw [(low_at s (show j < s.size by omega)).1.1]
      exact this
theorem group_lower (g : ByteArray) : hexGroup (lower g) = hexGroup g := by
  unfold hexGroup
  rw [lower_size, hexB_lower]
/-- A number in decimal digits has no letters. -/
theorem numR_digs {s : ByteArray} {most : Int} (h : (numR s most 10).2 = 0) : s.data.toList.all (digOk 10) = true := by
  unfold numR at h
  split at h
  · cases h
  · rename_i h1
    cases e : s.data.toList.all (digOk 10)
    · exact absurd (.inr e) h1
    · rfl
theorem dig_low : ∀ n : Nat, n < 256 → digOk 10 (UInt8.ofNat n) = true → lowB (UInt8.ofNat n) = UInt8.ofNat n ∧ 48 ≤ n ∧ n ≤ 57 := by decide +kernel
theorem digs_lower {s : ByteArray} (h : s.data.toList.all (digOk 10) = true) : lower s = s := by
  apply bytes_ext
  show s.data.toList.map lowB = s.data.toList
  conv => rhs; rw [← List.map_id s.data.toList]
  refine List.map_congr_left fun b hb => ?_
  have h1 := List.all_eq_true.1 h b hb
  have := dig_low b.toNat b.toNat_lt (by rw [UInt8.ofNat_toNat]; exact h1)
  rw [UInt8.ofNat_toNat] at this
  exact this.1
theorem byte_lower {g : ByteArray} (h : byteNum g = true) : lower g = g := by
  simp only [byteNum, Bool.and_eq_true, decide_eq_true_eq] at h
  exact digs_lower (numR_digs h.1)
theorem quad_lower {g : ByteArray} (h : quad g = true) : quad (lower g) = true := by
  simp only [quad, Bool.and_eq_true, decide_eq_true_eq] at h ⊢
  rw [lower_split g.size g (Nat.le_refl _) low46]
  refine ⟨?_, by rw [List.length_map]; exact h.2⟩
  rw [List.all_map]
  refine List.all_eq_true.2 fun x hx => ?_
  have hx := List.all_eq_true.1 h.1 x hx
  show byteNum (lower x) = true
  rw [byte_lower hx]
  exact hx
theorem groups_lower (last : Bool) : ∀ l : List ByteArray, 0 ≤ groupsL last l → groupsL last (l.map lower) = groupsL last l
  | [], _ => rfl
  | g :: r, h => by
    rw [List.map_cons]
    unfold groupsL at *
    rw [group_lower]
    split at h
    · rename_i h1
      rw [if_pos h1, if_pos h1]
      split at h
      · omega
      · rename_i h2
        rw [groups_lower last r (by omega)]
    · rename_i h1
      rw [if_neg h1, if_neg h1]
      split at h
      · rename_i h2
        rw [if_pos h2, if_pos ⟨h2.1, by rw [h2.2.1]; rfl, quad_lower h2.2.2⟩]
      · omega
theorem groupsR_lower {s : ByteArray} {last : Bool} (h : 0 ≤ groupsR s last) : groupsR (lower s) last = groupsR s last := by
  unfold groupsR at *
  rw [lower_size]
  split at h
  · rename_i h1; rw [if_pos h1, if_pos h1]
  · rename_i h1
    rw [if_neg h1, if_neg h1, lower_split s.size s (Nat.le_refl _) low58, groups_lower last _ h]
theorem gap_lower (s : ByteArray) : gap (lower s) = gap s := by
  have hz := lower_size s
  have ga : ∀ j, j + 1 < s.size → gapAt (lower s) j = gapAt s j := fun j hj => by
    unfold gapAt
    rw [Bool.eq_iff_iff]
    simp only [Bool.and_eq_true, decide_eq_true_eq]
    rw [low58 s j (by omega), low58 s (j + 1) hj]
  rcases gap_spec s with ⟨h, hn⟩ | ⟨k, h, hk, hb, hn⟩
  · rw [h, gap_none (s := lower s), hz]
    intro j hj
    rw [ga j (by omega)]
    exact hn j (by omega)
  · rw [h]
    exact gap_at (by omega) (by rw [ga k hk]; exact hb) fun j hj => by rw [ga j (by omega)]; exact hn j hj
theorem addr_lower {s : ByteArray} (h : isAddr s = true) : isAddr (lower s) = true := by
  have hz := lower_size s
  have hg := gap_lower s
  rcases gap_spec s with ⟨e, _⟩ | ⟨k, e, hk, _⟩
  · rw [isAddr_row e, decide_eq_true_eq] at h
    rw [isAddr_row (by omega), decide_eq_true_eq, groupsR_lower (by omega)]
    exact h
  · rw [isAddr_gap (by omega) e] at h
    rw [isAddr_gap (s := lower s) (k := k) (by omega) (by omega), ← lower_ext, hz, ← lower_ext]
    simp only [Bool.and_eq_true, decide_eq_true_eq] at h ⊢
    rw [groupsR_lower h.1, groupsR_lower h.2.1]
    exact h

/-! Ports. -/
theorem dec_digs (u : Nat) : (∀ b ∈ Lib.decDigits u, digOk 10 b = true) ∧ numV 10 (Lib.decDigits u) = u := by
  induction u using Nat.strongRecOn with
  | _ u ih =>
    have one : ∀ d : Nat, d < 10 → digOk 10 (UInt8.ofNat (48 + d)) = true ∧ digV ((UInt8.ofNat (48 + d)).toNat : Int) = d := by decide +kernel
    by_cases h : u < 10
    · obtain ⟨h1, h2⟩ := one u h
      rw [Lib.decDigits_one h]
      refine ⟨fun b hb => by rw [List.mem_singleton.1 hb]; exact h1, ?_⟩
      show (0 : Int) * 10 + digV _ = _
      rw [h2]; omega
    · obtain ⟨h1, h2⟩ := ih (u / 10) (by omega)
      obtain ⟨h3, h4⟩ := one (u % 10) (by omega)
      rw [Lib.decDigits, dif_neg h]
      refine ⟨fun b hb => ?_, ?_⟩
      · rcases List.mem_append.1 hb with hb | hb
        · exact h1 b hb
        · rw [List.mem_singleton.1 hb]; exact h3
      · rw [numV_snoc, h2, h4]; omega
theorem dec_len {u : Nat} (h : u ≤ 65535) : 1 ≤ (Lib.decDigits u).length ∧ (Lib.decDigits u).length ≤ 5 := by
  rw [Lib.decDigits_length]
  refine ⟨Lib.nDigits_pos u, ?_⟩
  rcases Nat.lt_or_ge 5 (Lib.nDigits u) with h1 | h1
  · have key : ∀ (k u : Nat), k < Lib.nDigits u → 10 ^ k ≤ u ∨ k = 0 := by
      intro k
      induction k with
      | zero => intro u _; exact .inr rfl
      | succ k ih =>
        intro u hk
        by_cases hu : u < 10
        · rw [Lib.nDigits_small hu] at hk; omega
        · rw [Lib.nDigits_big hu] at hk
          left
          rcases ih (u / 10) (by omega) with h2 | h2
          · rw [Nat.pow_succ]; omega
          · rw [h2]; simp; omega
    rcases key 5 u h1 with h2 | h2
    · have : (10 : Nat) ^ 5 = 100000 := by decide
      omega
    · omega
  · exact h1
theorem itoa_nonneg {n : Int} (h : 0 ≤ n) : Lib.itoa n = Lib.decDigits n.toNat := by unfold Lib.itoa; rw [if_neg (by omega)]
theorem numR_itoa {n : Int} (h0 : 0 ≤ n) (h1 : n ≤ 65535) : numR (mkT (Lib.itoa n)) 65535 10 = (n, 0) := by
  rw [itoa_nonneg h0]
  obtain ⟨h2, h3⟩ := dec_digs n.toNat
  have hl := (dec_len (u := n.toNat) (by omega)).1
  unfold numR
  rw [mkT_size, mkT_data, if_neg, if_neg]
  · rw [h3]; simp; omega
  · rw [h3]; omega
  · rintro (h | h)
    · omega
    · rw [List.all_eq_true.2 h2] at h; cases h
theorem itoa_free {n : Int} (h0 : 0 ≤ n) : ∀ b ∈ Lib.itoa n, 48 ≤ (b.toNat : Int) ∧ (b.toNat : Int) ≤ 57 := by
  intro b hb
  rw [itoa_nonneg h0] at hb
  have h1 := (dec_digs n.toNat).1 b hb
  have := dig_low b.toNat b.toNat_lt (by rw [UInt8.ofNat_toNat]; exact h1)
  omega
theorem numR_port {s : ByteArray} : 0 ≤ (numR s 65535 10).1 ∧ (numR s 65535 10).1 ≤ 65535 := by
  have := numR_range s 65535 (by omega)
  omega
end Go.Proofs.YtjlnbjlhlglneaaGreatDoor
