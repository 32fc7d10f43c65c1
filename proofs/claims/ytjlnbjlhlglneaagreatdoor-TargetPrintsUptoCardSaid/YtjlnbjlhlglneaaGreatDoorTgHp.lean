/-
  Authorities: the walk of the reference.
-/
import Derived.Test.YtjlnbjlhlglneaaGreatDoorTgAu
import Derived.Test.YtjlnbjlhlglneaaGreatDoorTgT
namespace Go.Proofs.YtjlnbjlhlglneaaGreatDoor
open Go.RowKit Go.Shelf Go.Lib

theorem cut_flag {s h t : ByteArray} {c : Int} (hc : cutW s c = (h, t, false)) : t.size = 0 := by
  rcases place_spec s c with ⟨hp, _⟩ | ⟨k, hp, hk, _⟩
  · rw [cutW_miss hp] at hc
    injection hc with _ hc
    injection hc with hc _
    rw [← hc]; rfl
  · rw [cutW_hit hk hp] at hc
    injection hc with _ hc
    injection hc with _ hc
    cases hc
theorem portR_err {h t : ByteArray} (hz : ¬ t.size = 0) (hn : ¬ (numR t 65535 10).2 = 0) : portR h t = authBad := by
  by_cases hl : 5 < t.size
  · exact portR_long hl
  · exact portR_bad hl hz hn
/-- Behind the bracket. -/
theorem inner_cut {s : ByteArray} (h : heads s 91 = true) : (place s 93 = s.size ∧ cutW (s.extract 1 s.size) 93 = (s.extract 1 s.size, ⟨#[]⟩, false)) ∨ (∃ m, place s 93 = m + 1 ∧ m + 1 < s.size ∧ cutW (s.extract 1 s.size) 93 = (s.extract 1 (m + 1), s.extract (m + 2) s.size, true)) := by
  obtain ⟨h0, h1⟩ := heads_iff.1 h
  have hz := ext_size s (a := 1) (b := s.size) (by omega) (Nat.le_refl _)
  have hb : ∀ j, j < s.size - 1 → bt (s.extract 1 s.size) j = bt s (j + 1) := fun j hj => by rw [ext_bt s hj, Nat.add_comm]
  rcases place_spec s 93 with ⟨hp, hn⟩ | ⟨k, hp, hk, hb93, hn⟩
  · left
    refine ⟨hp, cutW_miss ?_⟩
    rw [place_none (s := s.extract 1 s.size)]
    intro j hj
    rw [hb j (by omega)]
    exact hn _ (by omega)
  · right
    have hk0 := place_pos h hp
    obtain ⟨m, rfl⟩ : ∃ m, k = m + 1 := ⟨k - 1, by omega⟩
    refine ⟨m, hp, hk, ?_⟩
    have hp2 : place (s.extract 1 s.size) 93 = m := place_at (by omega) (by rw [hb m (by omega)]; exact hb93) fun j hj => by rw [hb j (by omega)]; exact hn _ (by omega)
    rw [cutW_hit (by omega) hp2, ext_pre s (by omega) (by omega), ext_ext, Nat.add_comm 1 m, show 1 + (m + 1) = m + 2 by omega]

set_option maxRecDepth 20000 in
set_option maxHeartbeats 8000000 in
theorem HostPort_any (s : ByteArray) (w : World) (hs : s.size ≤ 4194304) :
    Calls Tryz.prog 63 #[.string s] w fun e w' => e = .returned (authVal (authR s)) ∧ Below w.heap.size w w' := by
  cases hh : heads s 91
  · have HC := Lib.hid (fun w => rcut_any s 58 w (by omega))
    unfold cutVal at HC
    have ha := auth_name hh
    have hz := cutW_size s 58
    have hcf := Lib.hid (fun h t (hc : cutW s 58 = (h, t, false)) => cut_flag hc)
    generalize hcc : cutW s 58 = r at *
    obtain ⟨h, t, fl⟩ := r
    dsimp only at HC ha hz
    have hts : t.size ≤ s.size := hz.2.1
    have HN := Lib.hid (fun w => risName_any h w (by omega))
    have HL := Lib.hid (fun w => rLower_any h w (by unfold maxLen; omega))
    generalize isNameH h = b at *
    have HA := Lib.hid (fun hb : b = false => ha.trans (if_neg (by rw [hb]; simp)))
    have HB := Lib.hid (fun hb : b = true => ha.trans (if_pos hb))
    have HF := Lib.hid (fun hf : fl = false => (by subst hf; exact hcf.out h t rfl : t.size = 0))
    clear ha hz hcf hcc
    have hfront : (s.toList.isEmpty = true) ∨ (s.toList.isEmpty = false ∧ ∃ h0 : 0 < s.size, (bt s 0 == 91) = false) := by
      by_cases h0 : s.size = 0
      · left; rw [empty_eq]; exact decide_eq_true h0
      · right
        refine ⟨by rw [empty_eq]; exact decide_eq_false h0, by omega, ?_⟩
        rw [beq_eq_false_iff_ne]
        intro e
        rw [heads_iff.2 ⟨by omega, e⟩] at hh
        cases hh
    clear hh
    rcases hfront with he | ⟨he, h0, h91⟩
    case' inr => have hb0 := @bt_eq s 0 h0
    all_goals
      cases b
      · have HZ := Lib.hid (HA.out rfl)
        go_enter Tryz.func63, Tryz.ntmps63
        go_wp2_with fail
        refine (HC.out _).mono ?_
        rintro e w1 ⟨rfl, q, rfl⟩
        have B1 := below_drewN (Below.refl w.heap.size w) q
        go_wp2_with fail
        refine (HN.out _).mono ?_
        rintro e w1 ⟨rfl, rfl⟩
        go_wp2
        go_ret3
        exact ⟨by rw [HZ.out]; rfl, B1⟩
      · have HY := Lib.hid (HB.out rfl)
        cases fl
        · have hz := HF.out rfl
          have HZ := Lib.hid (HY.out.trans (portR_none hz))
          go_enter Tryz.func63, Tryz.ntmps63
          go_wp2_with fail
          refine (HC.out _).mono ?_
          rintro e w1 ⟨rfl, q, rfl⟩
          have B1 := below_drewN (Below.refl w.heap.size w) q
          go_wp2_with fail
          refine (HN.out _).mono ?_
          rintro e w1 ⟨rfl, rfl⟩
          go_wp2_with fail
          refine (HL.out _).mono ?_
          rintro e w7 ⟨rfl, b7⟩
          have B7 := B1.trans (b7.mono B1.size)
          clear b7
          go_wp2
          go_ret3
          exact ⟨by rw [HZ.out]; rfl, B7⟩
        · clear HF
          by_cases hz : t.size = 0
          · have HZ := Lib.hid (HY.out.trans (portR_none hz))
            have he2 : t.toList.isEmpty = true := by rw [empty_eq]; exact decide_eq_true hz
            clear hz
            go_enter Tryz.func63, Tryz.ntmps63
            go_wp2_with fail
            refine (HC.out _).mono ?_
            rintro e w1 ⟨rfl, q, rfl⟩
            have B1 := below_drewN (Below.refl w.heap.size w) q
            go_wp2_with fail
            refine (HN.out _).mono ?_
            rintro e w1 ⟨rfl, rfl⟩
            go_wp2_with fail
            refine (HL.out _).mono ?_
            rintro e w7 ⟨rfl, b7⟩
            have B7 := B1.trans (b7.mono B1.size)
            clear b7
            go_wp2
            go_ret3
            exact ⟨by rw [HZ.out]; rfl, B7⟩
          · have he2 : t.toList.isEmpty = false := by rw [empty_eq]; exact decide_eq_false hz
            have hpo := fun hl => @portR_ok (h) (t) hl hz
            have hpb := @portR_err (h) (t) hz
            have hpl := @portR_long (h) (t)
            have HD := Lib.hid (fun w => rDecimal_any (t) 65535 w (by omega) (by omega) (by omega))
            generalize numR (t) 65535 10 = r at *
            obtain ⟨n, er⟩ := r
            dsimp only at HD hpo hpb
            by_cases he0 : er = 0
            · have hee : (er != 0) = false := by simp [he0]
              by_cases hl : 5 < t.size
              · have HZ := Lib.hid (HY.out.trans (hpl hl))
                clear hz hpo hpb he0 hpl
                go_enter Tryz.func63, Tryz.ntmps63
                go_wp2_with fail
                refine (HC.out _).mono ?_
                rintro e w1 ⟨rfl, q, rfl⟩
                have B1 := below_drewN (Below.refl w.heap.size w) q
                go_wp2_with fail
                refine (HN.out _).mono ?_
                rintro e w1 ⟨rfl, rfl⟩
                go_wp2_with fail
                refine (HL.out _).mono ?_
                rintro e w7 ⟨rfl, b7⟩
                have B7 := B1.trans (b7.mono B1.size)
                clear b7
                go_wp2_with fail
                refine (HD.out _).mono ?_
                rintro e w8 ⟨rfl, rfl⟩
                go_wp2
                go_ret3
                exact ⟨by rw [HZ.out]; rfl, B7⟩
              · have HZ := Lib.hid (HY.out.trans (hpo hl he0))
                clear hz hpo hpb he0 hpl
                go_enter Tryz.func63, Tryz.ntmps63
                go_wp2_with fail
                refine (HC.out _).mono ?_
                rintro e w1 ⟨rfl, q, rfl⟩
                have B1 := below_drewN (Below.refl w.heap.size w) q
                go_wp2_with fail
                refine (HN.out _).mono ?_
                rintro e w1 ⟨rfl, rfl⟩
                go_wp2_with fail
                refine (HL.out _).mono ?_
                rintro e w7 ⟨rfl, b7⟩
                have B7 := B1.trans (b7.mono B1.size)
                clear b7
                go_wp2_with fail
                refine (HD.out _).mono ?_
                rintro e w8 ⟨rfl, rfl⟩
                go_wp2
                go_ret3
                exact ⟨by rw [HZ.out]; rfl, B7⟩
            · have hee : (er != 0) = true := by simpa using he0
              have HZ := Lib.hid (HY.out.trans (hpb he0))
              clear hz hpo hpb he0 hpl
              go_enter Tryz.func63, Tryz.ntmps63
              go_wp2_with fail
              refine (HC.out _).mono ?_
              rintro e w1 ⟨rfl, q, rfl⟩
              have B1 := below_drewN (Below.refl w.heap.size w) q
              go_wp2_with fail
              refine (HN.out _).mono ?_
              rintro e w1 ⟨rfl, rfl⟩
              go_wp2_with fail
              refine (HL.out _).mono ?_
              rintro e w7 ⟨rfl, b7⟩
              have B7 := B1.trans (b7.mono B1.size)
              clear b7
              go_wp2_with fail
              refine (HD.out _).mono ?_
              rintro e w8 ⟨rfl, rfl⟩
              go_wp2
              go_ret3
              exact ⟨by rw [HZ.out]; rfl, B7⟩
  · have h0 := (heads_iff.1 hh).1
    have hb0 := @bt_eq s 0 h0
    have h91 : (bt s 0 == 91) = true := beq_iff_eq.2 (heads_iff.1 hh).2
    have he : s.toList.isEmpty = false := by rw [empty_eq]; exact decide_eq_false (by omega)
    have hz1 := ext_size s (a := 1) (b := s.size) (by omega) (by omega)
    have HC := Lib.hid (fun w => rcut_any (s.extract 1 s.size) 93 w (by omega))
    unfold cutVal at HC
    rcases inner_cut hh with ⟨hp, hc⟩ | ⟨m, hp, hk, hc⟩
    · have HZ := Lib.hid (auth_open hh hp)
      rw [hc] at HC
      dsimp only at HC
      clear hh hp hc hz1
      go_enter Tryz.func63, Tryz.ntmps63
      go_wp2_with fail
      refine (HC.out _).mono ?_
      rintro e w1 ⟨rfl, q, rfl⟩
      have B1 := below_drewN (Below.refl w.heap.size w) q
      go_wp2
      go_ret3
      exact ⟨by rw [HZ.out]; rfl, B1⟩
    · have hzi := ext_size s (a := 1) (b := m + 1) (by omega) (by omega)
      have hzr := ext_size s (a := m + 2) (b := s.size) (by omega) (by omega)
      have hzh := ext_size s (a := 0) (b := m + 2) (by omega) (by omega)
      have hmm : m = (s.extract 1 (m + 1)).size := by omega
      have HA := Lib.hid (fun w => rIsAddress_any (s.extract 1 (m + 1)) w (by omega))
      have HL := Lib.hid (fun w => rLower_any (s.extract 0 (m + 2)) w (by unfold maxLen; omega))
      have i2 : ((m : Int) + 2).toNat = m + 2 := by omega
      have l2 : (m : Int) + 2 ≤ (s.size : Int) := by omega
      have l0 : (0 : Int) ≤ (m : Int) + 2 := by omega
      have haa := @auth_addr s (m + 1) hh hk hp
      have hbare := fun he => @auth_bare s (m + 1) hh he hp
      have hport := fun he => @auth_port s (m + 1) hh he hp
      have hjunk := fun he => @auth_junk s (m + 1) hh he hp
      rw [hc] at HC
      dsimp only at HC
      generalize s.extract 1 (m + 1) = inner at *
      subst hmm
      clear hp hc hh
      cases hia : isAddr inner
      · have HZ := Lib.hid (haa hia)
        rw [hia] at HA
        clear hz1 hzi hzr hia hzh haa hbare hport hjunk
        go_enter Tryz.func63, Tryz.ntmps63
        go_wp2_with fail
        refine (HC.out _).mono ?_
        rintro e w1 ⟨rfl, q, rfl⟩
        have B1 := below_drewN (Below.refl w.heap.size w) q
        go_wp2_with fail
        refine (HA.out _).mono ?_
        rintro e w2 ⟨rfl, b2⟩
        have B2 := B1.trans (b2.mono B1.size)
        clear b2
        go_wp2
        go_ret3
        exact ⟨by rw [HZ.out]; rfl, B2⟩
      · rw [hia] at HA
        by_cases hend : inner.size + 1 + 1 = s.size
        · have hab := hbare hend
          rw [if_pos hia, show lower s = lower (s.extract 0 (inner.size + 2)) by rw [show inner.size + 2 = s.size by omega]; congr 1; exact (bytes_ext (by rw [ext_front, ← size_eq, List.take_length])).symm] at hab
          have HZ := Lib.hid hab
          have her : (s.extract (inner.size + 2) s.size).toList.isEmpty = true := by rw [empty_eq]; exact decide_eq_true (by omega)
          clear hz1 hzi hzr hia hzh haa hbare hport hjunk hend hab
          go_enter Tryz.func63, Tryz.ntmps63
          go_wp2_with fail
          refine (HC.out _).mono ?_
          rintro e w1 ⟨rfl, q, rfl⟩
          have B1 := below_drewN (Below.refl w.heap.size w) q
          go_wp2_with fail
          refine (HA.out _).mono ?_
          rintro e w2 ⟨rfl, b2⟩
          have B2 := B1.trans (b2.mono B1.size)
          clear b2
          go_wp2_with fail
          refine (HL.out _).mono ?_
          rintro e w7 ⟨rfl, b7⟩
          have B7 := B2.trans (b7.mono B2.size)
          clear b7
          go_wp2
          go_ret3
          exact ⟨by rw [HZ.out]; rfl, B7⟩
        · have hrs : 0 < (s.extract (inner.size + 2) s.size).size := by omega
          have her : (s.extract (inner.size + 2) s.size).toList.isEmpty = false := by rw [empty_eq]; exact decide_eq_false (by omega)
          have hbr0 := @bt_eq (s.extract (inner.size + 2) s.size) 0 hrs
          have hbb : bt (s.extract (inner.size + 2) s.size) 0 = bt s (inner.size + 1 + 1) := ext_bt s (j := 0) (by omega)
          by_cases h58 : bt s (inner.size + 1 + 1) = 58
          · have hap := hport (by omega) h58
            rw [if_pos hia, show inner.size + 1 + 1 = inner.size + 2 from rfl, show inner.size + 1 + 2 = inner.size + 3 from rfl] at hap
            have h5 : (bt (s.extract (inner.size + 2) s.size) 0 != 58) = false := by rw [hbb, h58]; rfl
            rw [show inner.size + 3 = inner.size + 2 + 1 from rfl, ← ext_ext] at hap
            clear hbb h58 hport hjunk hbare haa hzi hia
            generalize s.extract (inner.size + 2) s.size = rest at *
            have HY := Lib.hid hap
            have hzt := ext_size rest (a := 1) (b := rest.size) (by omega) (by omega)
            have hts : (rest.extract 1 rest.size).size ≤ s.size := by omega
            clear hz1 hzh hend hap hzr
            by_cases hz : (rest.extract 1 rest.size).size = 0
            · have HZ := Lib.hid (HY.out.trans (portR_none hz))
              have he2 : (rest.extract 1 rest.size).toList.isEmpty = true := by rw [empty_eq]; exact decide_eq_true hz
              clear hz
              go_enter Tryz.func63, Tryz.ntmps63
              go_wp2_with fail
              refine (HC.out _).mono ?_
              rintro e w1 ⟨rfl, q, rfl⟩
              have B1 := below_drewN (Below.refl w.heap.size w) q
              go_wp2_with fail
              refine (HA.out _).mono ?_
              rintro e w2 ⟨rfl, b2⟩
              have B2 := B1.trans (b2.mono B1.size)
              clear b2
              go_wp2_with fail
              refine (HL.out _).mono ?_
              rintro e w7 ⟨rfl, b7⟩
              have B7 := B2.trans (b7.mono B2.size)
              clear b7
              go_wp2
              go_ret3
              exact ⟨by rw [HZ.out]; rfl, B7⟩
            · have he2 : (rest.extract 1 rest.size).toList.isEmpty = false := by rw [empty_eq]; exact decide_eq_false hz
              have hpo := fun hl => @portR_ok (s.extract 0 (inner.size + 2)) ((rest.extract 1 rest.size)) hl hz
              have hpb := @portR_err (s.extract 0 (inner.size + 2)) ((rest.extract 1 rest.size)) hz
              have hpl := @portR_long (s.extract 0 (inner.size + 2)) ((rest.extract 1 rest.size))
              have HD := Lib.hid (fun w => rDecimal_any ((rest.extract 1 rest.size)) 65535 w (by omega) (by omega) (by omega))
              generalize numR ((rest.extract 1 rest.size)) 65535 10 = r at *
              obtain ⟨n, er⟩ := r
              dsimp only at HD hpo hpb
              by_cases he0 : er = 0
              · have hee : (er != 0) = false := by simp [he0]
                by_cases hl : 5 < (rest.extract 1 rest.size).size
                · have HZ := Lib.hid (HY.out.trans (hpl hl))
                  have hl5 : (5 : Int) < ((rest.size - 1 : Nat) : Int) := by omega
                  clear hzt
                  clear hz hpo hpb he0 hpl
                  go_enter Tryz.func63, Tryz.ntmps63
                  go_wp2_with fail
                  refine (HC.out _).mono ?_
                  rintro e w1 ⟨rfl, q, rfl⟩
                  have B1 := below_drewN (Below.refl w.heap.size w) q
                  go_wp2_with fail
                  refine (HA.out _).mono ?_
                  rintro e w2 ⟨rfl, b2⟩
                  have B2 := B1.trans (b2.mono B1.size)
                  clear b2
                  go_wp2_with fail
                  refine (HL.out _).mono ?_
                  rintro e w7 ⟨rfl, b7⟩
                  have B7 := B2.trans (b7.mono B2.size)
                  clear b7
                  go_wp2_with fail
                  refine (HD.out _).mono ?_
                  rintro e w8 ⟨rfl, rfl⟩
                  go_wp2
                  go_ret3
                  exact ⟨by rw [HZ.out]; rfl, B7⟩
                · have HZ := Lib.hid (HY.out.trans (hpo hl he0))
                  have hl5 : ((rest.size - 1 : Nat) : Int) ≤ 5 := by omega
                  clear hzt
                  clear hz hpo hpb he0 hpl
                  go_enter Tryz.func63, Tryz.ntmps63
                  go_wp2_with fail
                  refine (HC.out _).mono ?_
                  rintro e w1 ⟨rfl, q, rfl⟩
                  have B1 := below_drewN (Below.refl w.heap.size w) q
                  go_wp2_with fail
                  refine (HA.out _).mono ?_
                  rintro e w2 ⟨rfl, b2⟩
                  have B2 := B1.trans (b2.mono B1.size)
                  clear b2
                  go_wp2_with fail
                  refine (HL.out _).mono ?_
                  rintro e w7 ⟨rfl, b7⟩
                  have B7 := B2.trans (b7.mono B2.size)
                  clear b7
                  go_wp2_with fail
                  refine (HD.out _).mono ?_
                  rintro e w8 ⟨rfl, rfl⟩
                  go_wp2
                  go_ret3
                  exact ⟨by rw [HZ.out]; rfl, B7⟩
              · have hee : (er != 0) = true := by simpa using he0
                have HZ := Lib.hid (HY.out.trans (hpb he0))
                clear hz hpo hpb he0 hpl
                go_enter Tryz.func63, Tryz.ntmps63
                go_wp2_with fail
                refine (HC.out _).mono ?_
                rintro e w1 ⟨rfl, q, rfl⟩
                have B1 := below_drewN (Below.refl w.heap.size w) q
                go_wp2_with fail
                refine (HA.out _).mono ?_
                rintro e w2 ⟨rfl, b2⟩
                have B2 := B1.trans (b2.mono B1.size)
                clear b2
                go_wp2_with fail
                refine (HL.out _).mono ?_
                rintro e w7 ⟨rfl, b7⟩
                have B7 := B2.trans (b7.mono B2.size)
                clear b7
                go_wp2_with fail
                refine (HD.out _).mono ?_
                rintro e w8 ⟨rfl, rfl⟩
                go_wp2
                go_ret3
                exact ⟨by rw [HZ.out]; rfl, B7⟩
          · have HZ := Lib.hid (hjunk (by omega) h58)
            have h5 : (bt (s.extract (inner.size + 2) s.size) 0 != 58) = true := by rw [hbb]; simpa using h58
            clear hz1 hzi hzr hia hzh haa hbare hport hjunk hend h58 hbb
            generalize s.extract (inner.size + 2) s.size = rest at *
            go_enter Tryz.func63, Tryz.ntmps63
            go_wp2_with fail
            refine (HC.out _).mono ?_
            rintro e w1 ⟨rfl, q, rfl⟩
            have B1 := below_drewN (Below.refl w.heap.size w) q
            go_wp2_with fail
            refine (HA.out _).mono ?_
            rintro e w2 ⟨rfl, b2⟩
            have B2 := B1.trans (b2.mono B1.size)
            clear b2
            go_wp2
            go_ret3
            exact ⟨by rw [HZ.out]; rfl, B2⟩
end Go.Proofs.YtjlnbjlhlglneaaGreatDoor
