/-
  Walks through the references' own small functions on bytes (layer 6's text).
-/
import Derived.Test.YtamagbdkcfmfmaaDoorOct
namespace Go.Proofs.YtamagbdkcfmfmaaDoor
open Go.RowKit Go.Shelf Go.Lib

theorem rBlank_any (c : Int) (w : World) :
    Calls Tryd.prog 75 #[.int .u8 c] w fun e w' => e = .returned (.bool (blank c)) ∧ w = w' := by
  have hs : c = 32 ∨ c = 9 ∨ ((c == 32) = false ∧ (c == 9) = false) := by simp only [beq_eq_false_iff_ne, ne_eq]; omega
  rcases hs with rfl | rfl | ⟨h1, h2⟩
  all_goals
    go_enter Tryd.func75, Tryd.ntmps75
    go_wp2
    go_ret
    first | exact ⟨rfl, rfl⟩ | exact ⟨ret_bool (blank_no h1 h2).symm, rfl⟩
theorem rInside_any (c : Int) (w : World) :
    Calls Tryd.prog 78 #[.int .u8 c] w fun e w' => e = .returned (.bool (inside c)) ∧ w = w' := by
  have hs : c = 9 ∨ (c < 32 ∧ (c == 9) = false) ∨ c = 127 ∨ (32 ≤ c ∧ (c == 9) = false ∧ (c != 127) = true) := by simp only [beq_eq_false_iff_ne, bne_iff_ne, ne_eq]; omega
  rcases hs with rfl | ⟨h1, h2⟩ | rfl | ⟨h1, h2, h3⟩
  all_goals
    go_enter Tryd.func78, Tryd.ntmps78
    go_wp2
    go_ret
    first | exact ⟨rfl, rfl⟩ | exact ⟨ret_bool (inside_low h1 h2).symm, rfl⟩ | exact ⟨ret_bool (inside_high h1 h3).symm, rfl⟩

set_option maxRecDepth 20000 in
theorem rSign_alnum (c : Int) (w : World) (h : alnum c = true) :
    Calls Tryd.prog 77 #[.int .u8 c] w fun e w' => e = .returned (.bool true) ∧ w = w' := by
  have hs : (48 ≤ c ∧ c ≤ 57) ∨ (65 ≤ c ∧ c ≤ 90) ∨ (97 ≤ c ∧ c ≤ 122) := by simp [alnum] at h; omega
  clear h
  rcases hs with ⟨h1, h2⟩ | ⟨h1, h2⟩ | ⟨h1, h2⟩
  all_goals
    go_enter Tryd.func77, Tryd.ntmps77
    go_wp2
    go_ret
    exact ⟨rfl, rfl⟩
set_option maxRecDepth 20000 in
theorem rSign_other (c : Int) (w : World) (h : alnum c = false) :
    Calls Tryd.prog 77 #[.int .u8 c] w fun e w' => e = .returned (.bool (sign c)) ∧ w = w' := by
  have hs : c < 48 ∨ (57 < c ∧ c < 65) ∨ (90 < c ∧ c < 97) ∨ 122 < c := by simp [alnum] at h; omega
  have HA := Lib.hid h
  clear h
  rcases hs with h1 | ⟨h1, h2⟩ | ⟨h1, h2⟩ | h1
  all_goals
    go_enter Tryd.func77, Tryd.ntmps77
    go_wp2
    have hsz : oth.size ≤ 15 := by rw [oth_size]; exact Nat.le_refl _
    have hsz' : 15 ≤ oth.size := by rw [oth_size]; exact Nat.le_refl _
    go_loop [4] (fun i => ∃ k : Nat, k ≤ oth.size ∧ i = .int .i64 k ∧ AllTo (fun b => !decide (b = c)) oth k) (fun i => oth.size - (RowKit.intOf i).toNat)
    case atStart => exact ⟨0, by omega, rfl, AllTo.zero _ _⟩
    case round =>
      obtain ⟨k, hk, rfl, hall⟩ := hrel
      by_cases hlt : k < oth.size
      · have hb : ((((⟨#[33, 35, 36, 37, 38, 39, 42, 43, 45, 46, 94, 95, 96, 124, 126]⟩ : ByteArray)[k]'hlt).toNat : Nat) : Int) = bt oth k := @bt_eq oth k hlt
        have hlt15 : k < 15 := by omega
        by_cases hc : bt oth k = c
        · have hcc : (bt oth k == c) = true := by simpa using hc
          have HC := Lib.hid hc
          clear hc
          go_wp2
          go_ret
          exact ⟨ret_bool (by rw [sign, allB_false hlt (by simp [HC.out])]; simp), rfl⟩
        · have hcc : (bt oth k == c) = false := by simpa using hc
          have HC := Lib.hid hc
          clear hc
          go_wp2
          go_round
          case rel => exact ⟨k + 1, by omega, by go_num, hall.succ (by simpa using HC.out)⟩
          case measure => simp [RowKit.intOf]; omega
      · obtain rfl : k = oth.size := by omega
        go_wp2
        go_ret
        exact ⟨ret_bool (by rw [sign, HA.out, allB_true hall]; rfl), rfl⟩
theorem rSign_any (c : Int) (w : World) :
    Calls Tryd.prog 77 #[.int .u8 c] w fun e w' => e = .returned (.bool (sign c)) ∧ w = w' := by
  cases h : alnum c
  · exact rSign_other c w h
  · rw [show sign c = true by rw [sign, h]; rfl]
    exact rSign_alnum c w h

set_option maxRecDepth 20000 in
theorem rToken_any (s : ByteArray) (w : World) (hs : s.size ≤ maxLen) :
    Calls Tryd.prog 80 #[.string s] w fun e w' => e = .returned (.bool (isTok s)) ∧ w = w' := by
  unfold maxLen at hs
  go_enter Tryd.func80, Tryd.ntmps80
  go_wp2
  go_loop [3] (fun i => ∃ k : Nat, k ≤ s.size ∧ i = .int .i64 k ∧ AllTo sign s k) (fun i => s.size - (RowKit.intOf i).toNat)
  case atStart => exact ⟨0, by omega, rfl, AllTo.zero _ _⟩
  case round =>
    obtain ⟨k, hk, rfl, hall⟩ := hrel
    by_cases hlt : k < s.size
    · have hb := @bt_eq s k hlt
      go_wp2_with (go_at_call 77; refine (rSign_any _ _).mono ?_; rintro e w' ⟨rfl, rfl⟩)
      · have h : (!sign (bt s k)) = true := by assumption
        go_ret
        exact ⟨ret_bool (by rw [isTok, allB_false hlt (by simpa using h)]; rfl), rfl⟩
      · have h : (!sign (bt s k)) = false := by assumption
        go_round
        case rel => exact ⟨k + 1, by omega, by go_num, hall.succ (by simpa using h)⟩
        case measure => simp [RowKit.intOf]; omega
    · obtain rfl : k = s.size := by omega
      go_wp2
      go_ret
      exact ⟨ret_bool (by rw [isTok, allB_true hall]; exact pos_eq _), rfl⟩

set_option maxRecDepth 20000 in
theorem rLower_any (s : ByteArray) (w : World) (hs : s.size ≤ maxLen) :
    Calls Tryd.prog 82 #[.string s] w fun e w' => e = .returned (.string (lower s)) ∧ Below w.heap.size w w' := by
  unfold maxLen at hs
  have hcv := bytes_conv w s
  have hbw := Lib.bytesWorld_size w 5 s
  have hba := BytesAt.of_conv w 5 s
  have hbl := below_conv w 5 s
  generalize Lib.bytesWorld w 5 s = w1 at hcv hbw hba hbl
  generalize grownCap w s.size 0 5 = cap at hcv
  have HW := Lib.hid hbw
  clear hbw
  go_enter Tryd.func82, Tryd.ntmps82
  go_wp2
  go_loopw [4] (fun i wr => ∃ k : Nat, k ≤ s.size ∧ i = .int .i64 k ∧ BytesAt wr w.heap.size (mapTo lowB s.data.toList k) ∧ Below w.heap.size w wr ∧ w.heap.size < wr.heap.size) (fun i _ => s.size - (RowKit.intOf i).toNat)
  case atStart => exact ⟨0, by omega, rfl, by rw [mapTo_zero]; exact hba, hbl, by have := HW.out; omega⟩
  case round =>
    obtain ⟨k, hk, rfl, hb, hbl', hlt'⟩ := hrel
    by_cases hlt : k < s.size
    · have hkl : k < s.data.toList.length := by rw [size_eq]; exact hlt
      have hc := hb.cell k (by rw [mapTo_length]; exact hkl)
      have hf := hb.free k (by rw [mapTo_length]; exact hkl)
      rw [mapTo_getD lowB _ _ hkl] at hc
      change wr.cell? _ = some (.int .u8 (bt s k)) at hc
      by_cases hu : 65 ≤ bt s k ∧ bt s k ≤ 90
      · obtain ⟨hu1, hu2⟩ := hu
        have h1 := bt_lt s k
        go_wp2
        go_roundw
        case rel => exact ⟨k + 1, by omega, by go_num, by rw [mapTo_succ lowB _ _ hkl]; exact hb.set (by rw [mapTo_length]; exact hkl) _ _ (by unfold bt; rw [lowB_in ⟨hu1, hu2⟩]), hbl'.setCell (Nat.le_refl _) _, by simpa using hlt'⟩
        case measure => simp [RowKit.intOf]; omega
      · have hsame := mapTo_same lowB _ _ hkl (lowB_out hu)
        have HS := Lib.hid hsame
        clear hsame
        have hu' : bt s k < 65 ∨ 90 < bt s k := by omega
        clear hu
        rcases hu' with hu | hu
        all_goals
          go_wp2
          go_roundw
          case rel => exact ⟨k + 1, by omega, by go_num, by rw [HS.out]; exact hb, hbl', hlt'⟩
          case measure => simp [RowKit.intOf]; omega
    · obtain rfl : k = s.size := by omega
      have hcv := hb.conv Tryd.underlying95 Tryd.underlying5 Tryd.underlying9 cap
      rw [mapTo_length, size_eq, ← size_eq s, mapTo_all, size_eq] at hcv
      go_wp2
      go_ret
      exact ⟨rfl, hbl'⟩
theorem rAlike_any (a b : ByteArray) (w : World) (ha : a.size ≤ maxLen) (hb : b.size ≤ maxLen) :
    Calls Tryd.prog 42 #[.string a, .string b] w fun e w' => e = .returned (.bool (alike a b)) ∧ Below w.heap.size w w' := by
  go_enter Tryd.func42, Tryd.ntmps42
  go_wp2_with fail
  refine (rLower_any a _ ha).mono ?_
  rintro e w1 ⟨rfl, hb1⟩
  go_wp2_with fail
  refine (rLower_any b _ hb).mono ?_
  rintro e w2 ⟨rfl, hb2⟩
  go_wp2
  go_ret
  exact ⟨ret_bool (by rw [alike, ← eq_str]), hb1.trans (hb2.mono hb1.size)⟩

set_option maxRecDepth 20000 in
theorem rfind_any (s : ByteArray) (c : Int) (w : World) (hs : s.size ≤ maxLen) :
    Calls Tryd.prog 76 #[.string s, .int .u8 c] w fun e w' => e = .returned (.int .i64 (findB s c)) ∧ w = w' := by
  unfold maxLen at hs
  go_enter Tryd.func76, Tryd.ntmps76
  go_wp2
  go_loop [5] (fun i => ∃ k : Nat, k ≤ s.size ∧ i = .int .i64 k ∧ Good (fun j => !decide (bt s j = c)) 0 k) (fun i => s.size - (RowKit.intOf i).toNat)
  case atStart => exact ⟨0, by omega, rfl, Good.zero _ _⟩
  case round =>
    obtain ⟨k, hk, rfl, hall⟩ := hrel
    by_cases hlt : k < s.size
    · have hb := @bt_eq s k hlt
      by_cases hc : bt s k = c
      · have hcc : (bt s k == c) = true := by simpa using hc
        have HC := Lib.hid hc
        clear hc
        go_wp2
        go_ret
        exact ⟨ret_int (by rw [findB_at hall hlt HC.out]), rfl⟩
      · have hcc : (bt s k == c) = false := by simpa using hc
        have HC := Lib.hid hc
        clear hc
        go_wp2
        go_round
        case rel => exact ⟨k + 1, by omega, by go_num, hall.succ (by simpa using HC.out)⟩
        case measure => simp [RowKit.intOf]; omega
    · obtain rfl : k = s.size := by omega
      go_wp2
      go_ret
      exact ⟨ret_int (by rw [findB_none hall]), rfl⟩

/-- The second loop of Trim, from whatever text on. -/
theorem trim_end {s t u : ByteArray} (h1 : trimL t = trimL s) (h2 : trimL t = t) (h3 : trimR u = trimR t) (h4 : u.size = 0 ∨ blank (bt u (u.size - 1)) = false) : u = trim s := by
  rw [← trim_comm, ← h1, h2, ← h3, trimR_stop u h4]
set_option maxRecDepth 20000 in
set_option maxHeartbeats 1000000 in
theorem rTrim_any (s : ByteArray) (w : World) (hs : s.size ≤ maxLen) :
    Calls Tryd.prog 79 #[.string s] w fun e w' => e = .returned (.string (trim s)) ∧ w = w' := by
  unfold maxLen at hs
  go_enter Tryd.func79, Tryd.ntmps79
  go_wp2
  go_loop [0] (fun v => ∃ t : ByteArray, v = .string t ∧ t.size ≤ s.size ∧ trimL t = trimL s) (fun v => match v with | .string t => t.size | _ => 0)
  case atStart => exact ⟨s, rfl, by omega, rfl⟩
  case round =>
    obtain ⟨t, rfl, hts, ht⟩ := hrel
    have HT := Lib.hid ht
    clear ht
    by_cases hmore : 0 < t.size ∧ blank (bt t 0) = true
    · obtain ⟨h0, hbl⟩ := hmore
      have hb := @bt_eq t 0 h0
      have hsz := ext_size t (a := 1) (b := t.size) (by omega) (by omega)
      have hsz' : (t.extract 1 t.size).size < t.size := by omega
      have HS := Lib.hid (trimL_step t h0 hbl)
      clear hsz
      go_wp2_with (go_at_call 75; refine (rBlank_any _ _).mono ?_; rintro e w' ⟨rfl, rfl⟩)
      go_round
      case rel => exact ⟨_, rfl, by omega, by rw [HS.out, HT.out]⟩
      case measure => exact hsz'
    · have H2 := Lib.hid (trimL_stop t (by
        by_cases h0 : 0 < t.size
        · cases h : blank (bt t 0)
          · exact .inr rfl
          · exact absurd ⟨h0, h⟩ hmore
        · exact .inl (by omega)))
      have hcase : t.size = 0 ∨ (0 < t.size ∧ blank (bt t 0) = false) := by
        by_cases h0 : 0 < t.size
        · refine .inr ⟨h0, ?_⟩
          cases h : blank (bt t 0)
          · rfl
          · exact absurd ⟨h0, h⟩ hmore
        · exact .inl (by omega)
      clear hmore
      have fin : ∀ u : ByteArray, trimR u = trimR t → (u.size = 0 ∨ blank (bt u (u.size - 1)) = false) → u = trim s := fun u h3 h4 => trim_end HT.out H2.out h3 h4
      have FIN := Lib.hid fin
      clear fin HT H2
      rcases hcase with hz | ⟨h0, hbl⟩
      · have hz' : ¬ 0 < t.size := by omega
        have HZ := Lib.hid hz
        clear hz
        go_wp2
        go_loop [0] (fun v => v = .string t) (fun _ => 0)
        case atStart => exact rfl
        case round =>
          subst hrel
          go_wp2
          go_ret
          exact ⟨ret_str (FIN.out t rfl (.inl HZ.out)), rfl⟩
      · have hb := @bt_eq t 0 h0
        go_wp2_with (go_at_call 75; refine (rBlank_any _ _).mono ?_; rintro e w' ⟨rfl, rfl⟩)
        clear hb hbl h0
        go_loop [0] (fun v => ∃ u : ByteArray, v = .string u ∧ u.size ≤ t.size ∧ trimR u = trimR t) (fun v => match v with | .string t => t.size | _ => 0)
        case atStart => exact ⟨t, rfl, by omega, rfl⟩
        case round =>
          obtain ⟨u, rfl, hut, hu⟩ := hrel
          have HU := Lib.hid hu
          clear hu
          by_cases h0 : 0 < u.size
          · have hb := @bt_eq u (u.size - 1) (by omega)
            have hi : ((u.size : Int) - 1).toNat = u.size - 1 := by omega
            cases hbl : blank (bt u (u.size - 1))
            · go_wp2_with (go_at_call 75; refine (rBlank_any _ _).mono ?_; rintro e w' ⟨rfl, rfl⟩)
              go_ret
              exact ⟨ret_str (FIN.out u HU.out (.inr hbl)), rfl⟩
            · have hsz := ext_size u (a := 0) (b := u.size - 1) (by omega) (by omega)
              have hsz' : (u.extract 0 (u.size - 1)).size < u.size := by omega
              have HS := Lib.hid (trimR_step u h0 hbl)
              clear hsz
              go_wp2_with (go_at_call 75; refine (rBlank_any _ _).mono ?_; rintro e w' ⟨rfl, rfl⟩)
              go_round
              case rel => exact ⟨_, rfl, by omega, by rw [HS.out, HU.out]⟩
              case measure => exact hsz'
          · go_wp2
            go_ret
            exact ⟨ret_str (FIN.out u HU.out (.inl (by omega))), rfl⟩
end Go.Proofs.YtamagbdkcfmfmaaDoor
