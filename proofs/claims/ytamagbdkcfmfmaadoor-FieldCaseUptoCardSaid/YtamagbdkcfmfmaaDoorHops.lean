/-
  Persist and Host: the walks, of the program and of the reference.
-/
import Derived.Test.YtamagbdkcfmfmaaDoorToks
namespace Go.Proofs.YtamagbdkcfmfmaaDoor
open Go.RowKit Go.Shelf Go.Lib

def coName : ByteArray := ⟨#[67, 111, 110, 110, 101, 99, 116, 105, 111, 110]⟩
def hoName : ByteArray := ⟨#[72, 111, 115, 116]⟩
theorem lower_close : lower closeT = closeT := by decide +kernel
theorem lower_keep : lower keepT = keepT := by decide +kernel
theorem persR_has (r : List ByteArray × Int) (old : Bool) : persR r old = if ¬ r.2 = 0 then false else if hasR r closeT = true then false else if old = true then hasR r keepT else true := by
  unfold persR hasR
  rw [lower_close, lower_keep]
  by_cases h : r.2 = 0
  · rw [if_neg (show ¬ ¬ r.2 = 0 from fun h2 => h2 h)]
    rw [decide_eq_true h]
    simp only [Bool.true_and, h]
    cases isIn r.1 closeT <;> cases isIn r.1 keepT <;> cases old <;> rfl
  · rw [if_pos (.inl h), if_pos h]

set_option maxRecDepth 20000 in
set_option maxHeartbeats 2000000 in
theorem Persist_any (A : Option Addr) (c : Nat) (l : List Fl) (old : Bool) (w : World) (hr : Row w A (flat l)) (hk : bulkF l ≤ 1048576) (hg : Glob w) :
    Calls Tryd.prog 51 #[.slice A l.length c, .bool old] w fun e w' => e = .returned (.bool (persR (tokR (listR (allV l coName))) old)) ∧ Below w.heap.size w w' := by
  have hcl : coName.size ≤ maxLen := by decide
  have HT := Lib.hid (fun A c w hr hg => Tokens_any A c l coName w hr hk hcl hg)
  have HC := Lib.hid (fun A c w hr hg => Has_any A c l coName closeT w hr hk hcl (by decide) hg)
  have HK := Lib.hid (fun A c w hr hg => Has_any A c l coName keepT w hr hk hcl (by decide) hg)
  clear hcl
  have hp := persR_has (tokR (listR (allV l coName))) old
  generalize hasR (tokR (listR (allV l coName))) closeT = bc at *
  generalize hasR (tokR (listR (allV l coName))) keepT = bk at *
  generalize tokR (listR (allV l coName)) = r at *
  unfold coName closeT at *
  unfold keepT at *
  obtain ⟨x, ec⟩ := r
  simp only at hp
  by_cases hec : ec = 0
  · subst hec
    rw [if_neg (by simp)] at hp
    cases bc
    · cases old
      · have HP := Lib.hid (hp.trans (show _ = true by simp))
        clear hp
        go_enter Tryd.func51, Tryd.ntmps51
        go_wp2_with fail
        refine (HT.out A c w hr hg).mono ?_
        rintro e w1 ⟨A1, c1, rfl, _, hb1⟩
        have hr1 := hr.below hb1
        have hg1 := hg.beyond hb1
        go_wp2_with fail
        refine (HC.out A c w1 hr1 hg1).mono ?_
        rintro e w2 ⟨rfl, hb2⟩
        go_wp2
        go_ret
        exact ⟨ret_bool HP.out.symm, hb1.trans (hb2.mono hb1.size)⟩
      · have HP := Lib.hid (hp.trans (show _ = bk by simp))
        clear hp
        go_enter Tryd.func51, Tryd.ntmps51
        go_wp2_with fail
        refine (HT.out A c w hr hg).mono ?_
        rintro e w1 ⟨A1, c1, rfl, _, hb1⟩
        have hr1 := hr.below hb1
        have hg1 := hg.beyond hb1
        go_wp2_with fail
        refine (HC.out A c w1 hr1 hg1).mono ?_
        rintro e w2 ⟨rfl, hb2⟩
        have hr2 := hr1.below hb2
        have hg2 := hg1.beyond hb2
        have hbw := hb1.trans (hb2.mono hb1.size)
        go_wp2_with fail
        refine (HK.out A c w2 hr2 hg2).mono ?_
        rintro e w3 ⟨rfl, hb3⟩
        go_wp2
        go_ret
        exact ⟨ret_bool HP.out.symm, hbw.trans (hb3.mono hbw.size)⟩
    · have HP := Lib.hid (hp.trans (show _ = false by simp))
      clear hp
      go_enter Tryd.func51, Tryd.ntmps51
      go_wp2_with fail
      refine (HT.out A c w hr hg).mono ?_
      rintro e w1 ⟨A1, c1, rfl, _, hb1⟩
      have hr1 := hr.below hb1
      have hg1 := hg.beyond hb1
      go_wp2_with fail
      refine (HC.out A c w1 hr1 hg1).mono ?_
      rintro e w2 ⟨rfl, hb2⟩
      go_wp2
      go_ret
      exact ⟨ret_bool HP.out.symm, hb1.trans (hb2.mono hb1.size)⟩
  · have hne : (ec != 0) = true := by simpa using hec
    rw [if_pos hec] at hp
    have HP := Lib.hid hp
    clear hp hec
    go_enter Tryd.func51, Tryd.ntmps51
    go_wp2_with fail
    refine (HT.out A c w hr hg).mono ?_
    rintro e w1 ⟨A1, c1, rfl, _, hb1⟩
    go_wp2
    go_ret
    exact ⟨ret_bool HP.out.symm, hb1⟩

theorem persR_in (r : List ByteArray × Int) (old : Bool) : persR r old = if ¬ r.2 = 0 then false else if isIn r.1 closeT = true then false else if old = true then isIn r.1 keepT else true := by
  unfold persR
  by_cases h : r.2 = 0
  · rw [if_neg (show ¬ ¬ r.2 = 0 from fun h2 => h2 h)]
    simp only [h]
    cases isIn r.1 closeT <;> cases isIn r.1 keepT <;> cases old <;> rfl
  · rw [if_pos (.inl h), if_pos h]
set_option maxRecDepth 20000 in
set_option maxHeartbeats 2000000 in
theorem rPersist_any (A : Option Addr) (c : Nat) (l : List Fl) (old : Bool) (w : World) (hr : Row w A (flat l)) (hk : bulkF l ≤ 1048576) :
    Calls Tryd.prog 52 #[.slice A l.length c, .bool old] w fun e w' => e = .returned (.bool (persR (tokR (listR (allV l coName))) old)) ∧ Below w.heap.size w w' := by
  have hcl : coName.size ≤ maxLen := by decide
  have hba := bulk_all l coName
  have hlb := (listR_bound (allV l coName)).2.2
  have htl := tokR_len (listR (allV l coName))
  have HT := Lib.hid (fun A c w hr => rTokens_any A c l coName w hr hk hcl)
  clear hcl
  have hp := persR_in (tokR (listR (allV l coName))) old
  generalize tokR (listR (allV l coName)) = r at *
  obtain ⟨x, ec⟩ := r
  simp only at hp htl
  have hxl : x.length ≤ 1099511627776 := by omega
  have HC := Lib.hid (fun A c w hr => rIn_any A c x closeT w hr hxl)
  have HK := Lib.hid (fun A c w hr => rIn_any A c x keepT w hr hxl)
  generalize isIn x closeT = bc at *
  generalize isIn x keepT = bk at *
  unfold coName at *
  unfold closeT at *
  unfold keepT at *
  clear htl hlb hba
  by_cases hec : ec = 0
  · subst hec
    rw [if_neg (by simp)] at hp
    cases bc
    · cases old
      · have HP := Lib.hid (hp.trans (show _ = true by simp))
        clear hp
        go_enter Tryd.func52, Tryd.ntmps52
        go_wp2_with fail
        refine (HT.out A c w hr).mono ?_
        rintro e w1 ⟨A1, c1, rfl, hown1, hb1⟩
        have hx1 := own_row hown1
        clear hown1
        go_wp2_with fail
        refine (HC.out A1 c1 w1 hx1).mono ?_
        rintro e w2 ⟨rfl, rfl⟩
        go_wp2
        go_ret
        exact ⟨ret_bool HP.out.symm, hb1⟩
      · have HP := Lib.hid (hp.trans (show _ = bk by simp))
        clear hp
        go_enter Tryd.func52, Tryd.ntmps52
        go_wp2_with fail
        refine (HT.out A c w hr).mono ?_
        rintro e w1 ⟨A1, c1, rfl, hown1, hb1⟩
        have hx1 := own_row hown1
        clear hown1
        go_wp2_with fail
        refine (HC.out A1 c1 w1 hx1).mono ?_
        rintro e w2 ⟨rfl, rfl⟩
        go_wp2_with fail
        refine (HK.out A1 c1 w1 hx1).mono ?_
        rintro e w2 ⟨rfl, rfl⟩
        go_wp2
        go_ret
        exact ⟨ret_bool HP.out.symm, hb1⟩
    · have HP := Lib.hid (hp.trans (show _ = false by simp))
      clear hp
      go_enter Tryd.func52, Tryd.ntmps52
      go_wp2_with fail
      refine (HT.out A c w hr).mono ?_
      rintro e w1 ⟨A1, c1, rfl, hown1, hb1⟩
      have hx1 := own_row hown1
      clear hown1
      go_wp2_with fail
      refine (HC.out A1 c1 w1 hx1).mono ?_
      rintro e w2 ⟨rfl, rfl⟩
      go_wp2
      go_ret
      exact ⟨ret_bool HP.out.symm, hb1⟩
  · have hne : (ec != 0) = true := by simpa using hec
    rw [if_pos hec] at hp
    have HP := Lib.hid hp
    clear hp hec
    go_enter Tryd.func52, Tryd.ntmps52
    go_wp2_with fail
    refine (HT.out A c w hr).mono ?_
    rintro e w1 ⟨A1, c1, rfl, _, hb1⟩
    go_wp2
    go_ret
    exact ⟨ret_bool HP.out.symm, hb1⟩

/-- Host's three results. -/
theorem givesH {a a' : ByteArray} {b b' : Bool} {c c' : Int} {r : ByteArray × Bool × Int} (h : r = (a, b, c)) (ha : a' = a) (hb : b' = b) (hc : c' = c) : Ending.returned (.tuple #[.string a', .bool b', .int .i64 c']) = .returned (.tuple #[.string r.1, .bool r.2.1, .int .i64 r.2.2]) := by
  subst h ha hb hc
  rfl
theorem hostR_old : hostR [] true = (⟨#[]⟩, false, 0) := rfl
theorem hostR_no : hostR [] false = (⟨#[]⟩, false, 69) := rfl
theorem hostR_many (a b : ByteArray) (l : List ByteArray) (old : Bool) : hostR (a :: b :: l) old = (⟨#[]⟩, false, 69) := rfl
theorem hostR_bad {v : ByteArray} {old : Bool} {k : Nat} (hk : k < v.size) (h : hostB (bt v k) = false) : hostR [v] old = (⟨#[]⟩, false, 69) := by
  show (if _ then _ else _) = _
  rw [if_neg (by rw [allB_false hk h]; simp)]
theorem hostR_ok {v : ByteArray} {old : Bool} (h : AllTo hostB v v.size) : hostR [v] old = (v, true, 0) := by
  show (if _ then _ else _) = _
  rw [if_pos (allB_true h)]
theorem hostB_low {c : Int} (h : c < 33) : hostB c = false := by unfold hostB; rw [decide_eq_false (by omega)]; rfl
theorem hostB_high {c : Int} (h : 126 < c) : hostB c = false := by unfold hostB; rw [decide_eq_false (show ¬ c ≤ 126 by omega)]; simp
theorem hostB_in {c : Int} (h : 0 ≤ findB hostBad c) : hostB c = false := by unfold hostB; rw [decide_eq_false (show ¬ findB hostBad c < 0 by omega)]; simp
theorem hostB_ok {c : Int} (h0 : 33 ≤ c) (h1 : c ≤ 126) (h : findB hostBad c < 0) : hostB c = true := by unfold hostB; rw [decide_eq_true h0, decide_eq_true h1, decide_eq_true h]; rfl

set_option maxRecDepth 20000 in
set_option maxHeartbeats 4000000 in
theorem Host_any (A : Option Addr) (c : Nat) (l : List Fl) (old : Bool) (w : World) (hr : Row w A (flat l)) (hk : bulkF l ≤ 1048576) :
    Calls Tryd.prog 49 #[.slice A l.length c, .bool old] w fun e w' => e = .returned (.tuple #[.string (hostR (allV l hoName) old).1, .bool (hostR (allV l hoName) old).2.1, .int .i64 (hostR (allV l hoName) old).2.2]) ∧ Below w.heap.size w w' := by
  have hcl : hoName.size ≤ maxLen := by decide
  have hbl := bulk_len l
  have hba := bulk_all l hoName
  have HA := Lib.hid (fun A c w hr => All_any A c l hoName w hr (by omega) (bulk_wide hk) hcl)
  clear hcl
  generalize allV l hoName = vs at *
  unfold hoName at HA
  rcases vs with _ | ⟨v, _ | ⟨v2, vs⟩⟩
  · cases old
    · go_enter Tryd.func49, Tryd.ntmps49
      go_wp2_with fail
      refine (HA.out A c w hr).mono ?_
      rintro e w1 ⟨A1, c1, rfl, _, hb1⟩
      go_wp2
      go_ret3
      exact ⟨givesH hostR_no rfl rfl rfl, hb1⟩
    · go_enter Tryd.func49, Tryd.ntmps49
      go_wp2_with fail
      refine (HA.out A c w hr).mono ?_
      rintro e w1 ⟨A1, c1, rfl, _, hb1⟩
      go_wp2
      go_ret3
      exact ⟨givesH hostR_old rfl rfl rfl, hb1⟩
  · have hvs : v.size ≤ 1048576 := by simp only [List.map_cons, List.map_nil, List.sum_cons, List.sum_nil] at hba; omega
    have HB := Lib.hid (fun k hk h => hostR_bad (v := v) (old := old) (k := k) hk h)
    have HK := Lib.hid (hostR_ok (v := v) (old := old))
    have hbad : hostBad = ⟨#[34, 35, 47, 60, 62, 63, 64, 92]⟩ := rfl
    go_enter Tryd.func49, Tryd.ntmps49
    go_wp2_with fail
    refine (HA.out A c w hr).mono ?_
    rintro e w1 ⟨A1, c1, rfl, hown1, hb1⟩
    obtain ⟨b, off, rfl, hb, hc0⟩ := (own_row hown1).str (k := 0) (x := v) rfl
    rw [Nat.add_zero] at hc0
    have HBAD := Lib.hid hbad
    clear hown1 HA hbad
    go_wp2
    go_loop [23] (fun i => ∃ k : Nat, k ≤ v.size ∧ i = .int .i64 k ∧ AllTo hostB v k) (fun i => v.size - (RowKit.intOf i).toNat)
    case atStart => exact ⟨0, by omega, rfl, AllTo.zero _ _⟩
    case round =>
      obtain ⟨k, hkk, rfl, hall⟩ := hrel
      by_cases hlt : k < v.size
      · have hbt := @bt_eq v k hlt
        have h0 := bt_nonneg v k
        have h1 := bt_lt v k
        by_cases hlo : bt v k < 33
        · have HR := Lib.hid (HB.out k hlt (hostB_low hlo))
          go_wp2
          go_ret3
          exact ⟨givesH HR.out rfl rfl rfl, hb1⟩
        · by_cases hhi : 126 < bt v k
          · have HR := Lib.hid (HB.out k hlt (hostB_high hhi))
            go_wp2
            go_ret3
            exact ⟨givesH HR.out rfl rfl rfl, hb1⟩
          · have HF := Lib.hid (fun w => IndexByte_any hostBad (bt v k) w h0 h1)
            have HIN := Lib.hid (fun h => hostB_in (c := bt v k) h)
            have HOK := Lib.hid (fun h => hostB_ok (c := bt v k) (by omega) (by omega) h)
            rw [HBAD.out] at HF HIN HOK
            generalize findB ⟨#[34, 35, 47, 60, 62, 63, 64, 92]⟩ (bt v k) = f at *
            by_cases hf : 0 ≤ f
            · have HR := Lib.hid (HB.out k hlt (HIN.out hf))
              go_wp2_with fail
              refine (HF.out _).mono ?_
              rintro e w' ⟨rfl, rfl⟩
              go_wp2
              go_ret3
              exact ⟨givesH HR.out rfl rfl rfl, hb1⟩
            · have HS := Lib.hid (hall.succ (HOK.out (by omega)))
              clear hall
              go_wp2_with fail
              refine (HF.out _).mono ?_
              rintro e w' ⟨rfl, rfl⟩
              go_wp2
              go_round
              case rel => exact ⟨k + 1, by omega, by go_num, HS.out⟩
              case measure => simp [RowKit.intOf]; omega
      · obtain rfl : k = v.size := by omega
        have HR := Lib.hid (HK.out hall)
        clear hall
        go_wp2
        go_ret3
        exact ⟨givesH HR.out rfl rfl rfl, hb1⟩
  · have hl0 : (((v :: v2 :: vs).length : Int) == 0) = false := beq_eq_false_iff_ne.2 (by simp only [List.length_cons]; omega)
    have hl1 : decide ((1 : Int) < ((v :: v2 :: vs).length : Int)) = true := decide_eq_true (by simp only [List.length_cons]; omega)
    have HR := Lib.hid (hostR_many v v2 vs old)
    generalize v :: v2 :: vs = X at *
    go_enter Tryd.func49, Tryd.ntmps49
    go_wp2_with fail
    refine (HA.out A c w hr).mono ?_
    rintro e w1 ⟨A1, c1, rfl, _, hb1⟩
    go_wp2
    go_ret3
    exact ⟨givesH HR.out rfl rfl rfl, hb1⟩

set_option maxRecDepth 20000 in
set_option maxHeartbeats 4000000 in
theorem rHost_any (A : Option Addr) (c : Nat) (l : List Fl) (old : Bool) (w : World) (hr : Row w A (flat l)) (hk : bulkF l ≤ 1048576) :
    Calls Tryd.prog 50 #[.slice A l.length c, .bool old] w fun e w' => e = .returned (.tuple #[.string (hostR (allV l hoName) old).1, .bool (hostR (allV l hoName) old).2.1, .int .i64 (hostR (allV l hoName) old).2.2]) ∧ Below w.heap.size w w' := by
  have hcl : hoName.size ≤ maxLen := by decide
  have hbl := bulk_len l
  have hba := bulk_all l hoName
  have HA := Lib.hid (fun A c w hr => rAll_any A c l hoName w hr (by omega) (bulk_wide hk) hcl)
  clear hcl
  generalize allV l hoName = vs at *
  unfold hoName at HA
  rcases vs with _ | ⟨v, _ | ⟨v2, vs⟩⟩
  · cases old
    · go_enter Tryd.func50, Tryd.ntmps50
      go_wp2_with fail
      refine (HA.out A c w hr).mono ?_
      rintro e w1 ⟨A1, c1, rfl, _, hb1⟩
      go_wp2
      go_ret3
      exact ⟨givesH hostR_no rfl rfl rfl, hb1⟩
    · go_enter Tryd.func50, Tryd.ntmps50
      go_wp2_with fail
      refine (HA.out A c w hr).mono ?_
      rintro e w1 ⟨A1, c1, rfl, _, hb1⟩
      go_wp2
      go_ret3
      exact ⟨givesH hostR_old rfl rfl rfl, hb1⟩
  · have hvs : v.size ≤ 1048576 := by simp only [List.map_cons, List.map_nil, List.sum_cons, List.sum_nil] at hba; omega
    have HB := Lib.hid (fun k hk h => hostR_bad (v := v) (old := old) (k := k) hk h)
    have HK := Lib.hid (hostR_ok (v := v) (old := old))
    have hbad : hostBad = ⟨#[34, 35, 47, 60, 62, 63, 64, 92]⟩ := rfl
    go_enter Tryd.func50, Tryd.ntmps50
    go_wp2_with fail
    refine (HA.out A c w hr).mono ?_
    rintro e w1 ⟨A1, c1, rfl, hown1, hb1⟩
    obtain ⟨b, off, rfl, hb, hc0⟩ := (own_row hown1).str (k := 0) (x := v) rfl
    rw [Nat.add_zero] at hc0
    have HBAD := Lib.hid hbad
    clear hown1 HA hbad
    go_wp2
    go_loop [8] (fun i => ∃ k : Nat, k ≤ v.size ∧ i = .int .i64 k ∧ AllTo hostB v k) (fun i => v.size - (RowKit.intOf i).toNat)
    case atStart => exact ⟨0, by omega, rfl, AllTo.zero _ _⟩
    case round =>
      obtain ⟨k, hkk, rfl, hall⟩ := hrel
      by_cases hlt : k < v.size
      · have hbt := @bt_eq v k hlt
        have h0 := bt_nonneg v k
        have h1 := bt_lt v k
        by_cases hlo : bt v k < 33
        · have HR := Lib.hid (HB.out k hlt (hostB_low hlo))
          go_wp2
          go_ret3
          exact ⟨givesH HR.out rfl rfl rfl, hb1⟩
        · by_cases hhi : 126 < bt v k
          · have HR := Lib.hid (HB.out k hlt (hostB_high hhi))
            go_wp2
            go_ret3
            exact ⟨givesH HR.out rfl rfl rfl, hb1⟩
          · have HF := Lib.hid (fun w => rfind_any hostBad (bt v k) w (by decide))
            have HIN := Lib.hid (fun h => hostB_in (c := bt v k) h)
            have HOK := Lib.hid (fun h => hostB_ok (c := bt v k) (by omega) (by omega) h)
            rw [HBAD.out] at HF HIN HOK
            generalize findB ⟨#[34, 35, 47, 60, 62, 63, 64, 92]⟩ (bt v k) = f at *
            by_cases hf : 0 ≤ f
            · have HR := Lib.hid (HB.out k hlt (HIN.out hf))
              go_wp2_with fail
              refine (HF.out _).mono ?_
              rintro e w' ⟨rfl, rfl⟩
              go_wp2
              go_ret3
              exact ⟨givesH HR.out rfl rfl rfl, hb1⟩
            · have HS := Lib.hid (hall.succ (HOK.out (by omega)))
              clear hall
              go_wp2_with fail
              refine (HF.out _).mono ?_
              rintro e w' ⟨rfl, rfl⟩
              go_wp2
              go_round
              case rel => exact ⟨k + 1, by omega, by go_num, HS.out⟩
              case measure => simp [RowKit.intOf]; omega
      · obtain rfl : k = v.size := by omega
        have HR := Lib.hid (HK.out hall)
        clear hall
        go_wp2
        go_ret3
        exact ⟨givesH HR.out rfl rfl rfl, hb1⟩
  · have hl0 : (((v :: v2 :: vs).length : Int) == 0) = false := beq_eq_false_iff_ne.2 (by simp only [List.length_cons]; omega)
    have hl1 : decide ((1 : Int) < ((v :: v2 :: vs).length : Int)) = true := decide_eq_true (by simp only [List.length_cons]; omega)
    have HR := Lib.hid (hostR_many v v2 vs old)
    generalize v :: v2 :: vs = X at *
    go_enter Tryd.func50, Tryd.ntmps50
    go_wp2_with fail
    refine (HA.out A c w hr).mono ?_
    rintro e w1 ⟨A1, c1, rfl, _, hb1⟩
    go_wp2
    go_ret3
    exact ⟨givesH HR.out rfl rfl rfl, hb1⟩
end Go.Proofs.YtamagbdkcfmfmaaDoor
