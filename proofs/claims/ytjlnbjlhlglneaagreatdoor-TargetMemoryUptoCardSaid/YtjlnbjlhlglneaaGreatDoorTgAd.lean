/-
  Addresses and hosts: the walks of the program and of the reference.
-/
import Derived.Test.YtjlnbjlhlglneaaGreatDoorTgGp
namespace Go.Proofs.YtjlnbjlhlglneaaGreatDoor
open Go.RowKit Go.Shelf Go.Lib

theorem row8 {s : ByteArray} (h : gap s = s.size) (h0 : ¬ 0 ≤ groupsR s true) : isAddr s = false := by rw [isAddr_row h]; exact decide_eq_false (by omega)
theorem row8_eq {s : ByteArray} (h : gap s = s.size) : isAddr s = (groupsR s true == 8) := by rw [isAddr_row h]; rfl
set_option maxRecDepth 20000 in
set_option maxHeartbeats 4000000 in
theorem isAddress_any (s : ByteArray) (w : World) (hs : s.size ≤ 4194304) (hg : Glob w) :
    Calls Tryz.prog 112 #[.string s] w fun e w' => e = .returned (.bool (isAddr s)) ∧ Below w.heap.size w w' := by
  have HC := Lib.hid (CutGap_any s w hs hg)
  have hz := (gap_spec s)
  by_cases hgap : gap s = s.size
  · have hgv : gapVal s = .tuple #[.string s, .string ⟨#[]⟩, .bool false] := by unfold gapVal; rw [if_neg (by omega)]
    rw [hgv] at HC
    have HG := Lib.hid (fun w hg => groups_any s true w hs hg)
    have H8 := Lib.hid (row8_eq hgap)
    have H0 := Lib.hid (fun h => row8 hgap h)
    clear hgv hz hgap
    unfold GivesGr at HG
    generalize groupsR s true = r at *
    by_cases hr : 0 ≤ r
    · have hd : decide (0 ≤ r) = true := decide_eq_true hr
      rw [hd] at HG
      clear hd
      go_enter Tryz.func112, Tryz.ntmps112
      go_wp2_with fail
      refine HC.out.mono ?_
      rintro e w1 ⟨rfl, q, rfl⟩
      go_wp2_with fail
      refine (HG.out _ (hg.drewN q)).mono ?_
      rintro e w2 ⟨n, rfl, hn, b2⟩
      obtain rfl : n = r := hn hr
      go_wp2
      go_ret
      exact ⟨ret_bool H8.out.symm, (below_drewN (Below.refl _ _) q).trans b2⟩
    · have hd : decide (0 ≤ r) = false := decide_eq_false hr
      rw [hd] at HG
      have HB := Lib.hid (H0.out hr)
      clear hd
      go_enter Tryz.func112, Tryz.ntmps112
      go_wp2_with fail
      refine HC.out.mono ?_
      rintro e w1 ⟨rfl, q, rfl⟩
      go_wp2_with fail
      refine (HG.out _ (hg.drewN q)).mono ?_
      rintro e w2 ⟨n, rfl, hn, b2⟩
      go_wp2
      go_ret
      exact ⟨ret_bool HB.out.symm, (below_drewN (Below.refl _ _) q).trans b2⟩
  · obtain ⟨k, hk, hk1, _⟩ := hz.resolve_left (fun h => hgap h.1)
    have hgv : gapVal s = .tuple #[.string (s.extract 0 k), .string (s.extract (k + 2) s.size), .bool true] := by unfold gapVal; rw [hk, if_pos (by omega)]
    rw [hgv] at HC
    have hz1 := ext_size s (a := 0) (b := k) (by omega) (by omega)
    have hz2 := ext_size s (a := k + 2) (b := s.size) (by omega) (by omega)
    have HA := Lib.hid (fun w hg => groups_any (s.extract 0 k) false w (by omega) hg)
    have HB := Lib.hid (fun w hg => groups_any (s.extract (k + 2) s.size) true w (by omega) hg)
    have hia := isAddr_gap (s := s) (k := k) (by omega) hk
    have hra := groupsR_range (s.extract 0 k) false
    have hrb := groupsR_range (s.extract (k + 2) s.size) true
    unfold GivesGr at HA HB
    generalize groupsR (s.extract 0 k) false = a at *
    generalize groupsR (s.extract (k + 2) s.size) true = b at *
    generalize s.extract 0 k = t1 at *
    generalize s.extract (k + 2) s.size = t2 at *
    have HI := Lib.hid hia
    clear hgv hgap hk hia hz
    have fin : ∀ c : Bool, c = (decide (0 ≤ a) && (decide (0 ≤ b) && decide (a + b ≤ 7))) → isAddr s = c := fun c hc => HI.out.trans hc.symm
    have HF := Lib.hid fin
    clear fin
    by_cases ha : 0 ≤ a
    · have hda : decide (0 ≤ a) = true := decide_eq_true ha
      rw [hda] at HA
      by_cases hb : 0 ≤ b
      · have hdb : decide (0 ≤ b) = true := decide_eq_true hb
        rw [hdb] at HB
        have HE := Lib.hid (HF.out (decide (a + b ≤ 7)) (by rw [hda, hdb]; rfl))
        clear hda hdb
        go_enter Tryz.func112, Tryz.ntmps112
        go_wp2_with fail
        refine HC.out.mono ?_
        rintro e w1 ⟨rfl, q, rfl⟩
        have B1 := below_drewN (Below.refl w.heap.size w) q
        go_wp2_with fail
        refine (HA.out _ (hg.drewN q)).mono ?_
        rintro e w2 ⟨n, rfl, hn, b2⟩
        obtain rfl : n = a := hn ha
        have B2 : Below w.heap.size w w2 := B1.trans b2
        have hg2 := hg.beyond B2
        clear b2 hn
        go_wp2_with fail
        refine (HB.out _ hg2).mono ?_
        rintro e w3 ⟨m, rfl, hm, b3⟩
        obtain rfl : m = b := hm hb
        have B3 := B2.trans (b3.mono B2.size)
        clear b3 hm
        go_wp2
        go_ret
        exact ⟨ret_bool HE.out.symm, B3⟩
      · have hdb : decide (0 ≤ b) = false := decide_eq_false hb
        rw [hdb] at HB
        have HE := Lib.hid (HF.out false (by rw [hda, hdb]; rfl))
        clear hda hdb
        go_enter Tryz.func112, Tryz.ntmps112
        go_wp2_with fail
        refine HC.out.mono ?_
        rintro e w1 ⟨rfl, q, rfl⟩
        have B1 := below_drewN (Below.refl w.heap.size w) q
        go_wp2_with fail
        refine (HA.out _ (hg.drewN q)).mono ?_
        rintro e w2 ⟨n, rfl, hn, b2⟩
        have B2 : Below w.heap.size w w2 := B1.trans b2
        have hg2 := hg.beyond B2
        clear b2 hn
        go_wp2_with fail
        refine (HB.out _ hg2).mono ?_
        rintro e w3 ⟨m, rfl, hm, b3⟩
        have B3 := B2.trans (b3.mono B2.size)
        clear b3 hm
        go_wp2
        go_ret
        exact ⟨ret_bool HE.out.symm, B3⟩
    · have hda : decide (0 ≤ a) = false := decide_eq_false ha
      rw [hda] at HA
      have HE := Lib.hid (HF.out false (by rw [hda]; rfl))
      clear hda
      go_enter Tryz.func112, Tryz.ntmps112
      go_wp2_with fail
      refine HC.out.mono ?_
      rintro e w1 ⟨rfl, q, rfl⟩
      have B1 := below_drewN (Below.refl w.heap.size w) q
      go_wp2_with fail
      refine (HA.out _ (hg.drewN q)).mono ?_
      rintro e w2 ⟨n, rfl, hn, b2⟩
      have B2 : Below w.heap.size w w2 := B1.trans b2
      have hg2 := hg.beyond B2
      clear b2 hn
      go_wp2_with fail
      refine (HB.out _ hg2).mono ?_
      rintro e w3 ⟨m, rfl, hm, b3⟩
      have B3 := B2.trans (b3.mono B2.size)
      clear b3 hm
      go_wp2
      go_ret
      exact ⟨ret_bool HE.out.symm, B3⟩

set_option maxRecDepth 20000 in
set_option maxHeartbeats 4000000 in
theorem rIsAddress_any (s : ByteArray) (w : World) (hs : s.size ≤ 4194304) :
    Calls Tryz.prog 94 #[.string s] w fun e w' => e = .returned (.bool (isAddr s)) ∧ Below w.heap.size w w' := by
  go_enter Tryz.func94, Tryz.ntmps94
  go_wp2
  go_loop [3] (fun v => ∃ k : Nat, (k = 0 ∨ k + 1 ≤ s.size) ∧ v = .int .i64 k ∧ ∀ j, j < k → gapAt s j = false) (fun v => s.size - (RowKit.intOf v).toNat)
  case atStart => exact ⟨0, .inl rfl, rfl, fun j hj => by omega⟩
  case round =>
    obtain ⟨k, hk, rfl, hn⟩ := hrel
    by_cases hlt : k + 1 < s.size
    · have hb := @bt_eq s k (by omega)
      have hb1 := @bt_eq s (k + 1) hlt
      have i1 : ((k : Int) + 1).toNat = k + 1 := by omega
      have l1 : (k : Int) + 1 < (s.size : Int) := by omega
      have l0 : k < s.size := by omega
      clear hk
      by_cases hc0 : bt s k = 58
      · by_cases hc1 : bt s (k + 1) = 58
        · have t0 : (bt s k == 58) = true := beq_iff_eq.2 hc0
          have t1 : (bt s (k + 1) == 58) = true := beq_iff_eq.2 hc1
          have hk := gap_at hlt (by unfold gapAt; simp [hc0, hc1]) hn
          have hia := isAddr_gap (s := s) (k := k) (by omega) hk
          have hz1 := ext_size s (a := 0) (b := k) (by omega) (by omega)
          have hz2 := ext_size s (a := k + 2) (b := s.size) (by omega) (by omega)
          have HA := Lib.hid (fun w => rgroups_any (s.extract 0 k) false w (by omega))
          have HB := Lib.hid (fun w => rgroups_any (s.extract (k + 2) s.size) true w (by omega))
          have hra := groupsR_range (s.extract 0 k) false
          have hrb := groupsR_range (s.extract (k + 2) s.size) true
          generalize groupsR (s.extract 0 k) false = a at *
          generalize groupsR (s.extract (k + 2) s.size) true = b at *
          have fin : ∀ c : Bool, c = (decide (0 ≤ a) && (decide (0 ≤ b) && decide (a + b ≤ 7))) → isAddr s = c := fun c hc => hia.trans hc.symm
          have HF := Lib.hid fin
          have hw2 : IntKind.i64.wrap ((k : Int) + 2) = (k : Int) + 2 := IntWalk.i64_in _ (by omega)
          have hk0 : (0 : Int) ≤ (k : Int) := by omega
          have hks : (k : Int) ≤ (s.size : Int) := by omega
          have hk2 : (0 : Int) ≤ (k : Int) + 2 := by omega
          have hk2s : (k : Int) + 2 ≤ (s.size : Int) := by omega
          have hk2n : ((k : Int) + 2).toNat = k + 2 := by omega
          have ha9 : a ≤ 8388620 := by omega
          have hb9 : b ≤ 8388620 := by omega
          clear hc0 hc1 hk hia hn fin hz1 hz2
          go_wp2_with fail
          go_region_held3 (fun _ => True) (trivial) (first | (go_at_call 117; (with_reducible refine (HA.out _).mono ?_); rintro e w2 ⟨rfl, b2⟩) | (go_at_call 117; (with_reducible refine (HB.out _).mono ?_); rintro e w3 ⟨rfl, b3⟩))
          all_goals
            have B2 : Below w.heap.size w w2 := (below_drew (Below.refl w.heap.size w)).trans b2
            have B3 : Below w.heap.size w w3 := B2.trans (b3.mono B2.size)
            clear b2 b3 B2
            rcases Int.lt_or_le a 0 with ha | ha
            · have HE := Lib.hid (HF.out false (by rw [decide_eq_false (show ¬ 0 ≤ a by omega)]; rfl))
              clear HF
              go_wp2
              go_ret
              exact ⟨ret_bool HE.out.symm, B3⟩
            · rcases Int.lt_or_le b 0 with hb0 | hb0
              · have HE := Lib.hid (HF.out false (by rw [decide_eq_false (show ¬ 0 ≤ b by omega)]; simp))
                clear HF
                go_wp2
                go_ret
                exact ⟨ret_bool HE.out.symm, B3⟩
              · have HE := Lib.hid (HF.out (decide (a + b ≤ 7)) (by rw [decide_eq_true ha, decide_eq_true hb0]; rfl))
                clear HF
                go_wp2
                go_ret
                exact ⟨ret_bool HE.out.symm, B3⟩
        · have t0 : (bt s k == 58) = true := beq_iff_eq.2 hc0
          have t1 : (bt s (k + 1) == 58) = false := beq_eq_false_iff_ne.2 hc1
          have HN := Lib.hid (fun j (hj : j < k + 1) => (by
            by_cases e : j = k
            · rw [e]; unfold gapAt; simp [hc1]
            · exact hn j (by omega) : gapAt s j = false))
          clear hc0 hc1 hn
          go_wp2
          go_round
          case rel => exact ⟨k + 1, .inr (by omega), by go_num, HN.out⟩
          case measure => simp [RowKit.intOf]; omega
      · have t0 : (bt s k == 58) = false := beq_eq_false_iff_ne.2 hc0
        have HN := Lib.hid (fun j (hj : j < k + 1) => (by
          by_cases e : j = k
          · rw [e]; unfold gapAt; simp [hc0]
          · exact hn j (by omega) : gapAt s j = false))
        clear hc0 hn
        go_wp2
        go_round
        case rel => exact ⟨k + 1, .inr (by omega), by go_num, HN.out⟩
        case measure => simp [RowKit.intOf]; omega
    · have hgn : gap s = s.size := gap_none fun j hj => hn j (by omega)
      have HG := Lib.hid (fun w => rgroups_any s true w hs)
      have H8 := Lib.hid (row8_eq hgn)
      have l1 : ¬ (k : Int) + 1 < (s.size : Int) := by omega
      have hkk : (k : Int) ≤ 4194304 := by omega
      clear hgn hn
      generalize groupsR s true = r at *
      go_wp2_with fail
      refine (HG.out _).mono ?_
      rintro e w2 ⟨rfl, b2⟩
      go_wp2
      go_ret
      exact ⟨ret_bool H8.out.symm, b2⟩

def hostB5 (s : ByteArray) : Bool := if heads s 91 = true then (ends s 93 && isAddr (s.extract 1 (s.size - 1))) else isNameH s
set_option maxRecDepth 20000 in
set_option maxHeartbeats 4000000 in
theorem isHost_any (s : ByteArray) (w : World) (hs : s.size ≤ 4194304) (hg : Glob w) :
    Calls Tryz.prog 87 #[.string s] w fun e w' => e = .returned (.bool (hostB5 s)) ∧ Below w.heap.size w w' := by
  have HP := Lib.hid (fun w => Prefix_any s 91 w)
  rw [show ((91 : UInt8).toNat : Int) = 91 from rfl] at HP
  have HB := Lib.hid (show hostB5 s = if heads s 91 = true then (ends s 93 && isAddr (s.extract 1 (s.size - 1))) else isNameH s from rfl)
  cases hh : heads s 91
  · rw [hh] at HP HB
    rw [if_neg (by simp)] at HB
    have HS := Lib.hid (fun w => signs_host s w (by omega))
    by_cases hz : s.size = 0
    · have he : s.toList.isEmpty = true := by rw [empty_eq]; exact decide_eq_true hz
      have HN := Lib.hid (show isNameH s = false by unfold isNameH; rw [decide_eq_false (show ¬ 0 < s.size by omega)]; rfl)
      clear hz hh
      go_enter Tryz.func87, Tryz.ntmps87
      go_wp2_with fail
      refine (HP.out _).mono ?_
      rintro e w1 ⟨rfl, rfl⟩
      go_wp2
      go_ret
      exact ⟨ret_bool (by rw [HB.out, HN.out]), Below.refl _ _⟩
    · have he : s.toList.isEmpty = false := by rw [empty_eq]; exact decide_eq_false hz
      have HN := Lib.hid (show isNameH s = ((hostStop s : Int) == (s.size : Int)) by
        unfold isNameH
        rw [decide_eq_true (show 0 < s.size by omega), Bool.true_and, Bool.eq_iff_iff, decide_eq_true_eq, beq_iff_eq]
        omega)
      clear hz hh
      generalize hostStop s = n at *
      go_enter Tryz.func87, Tryz.ntmps87
      go_wp2_with fail
      refine (HP.out _).mono ?_
      rintro e w1 ⟨rfl, rfl⟩
      go_wp2_with fail
      refine (HS.out _).mono ?_
      rintro e w1 ⟨rfl, q, rfl⟩
      go_wp2
      go_ret
      exact ⟨ret_bool (by rw [HB.out, HN.out]), below_drewN (Below.refl _ _) q⟩
  · rw [hh] at HP HB
    rw [if_pos rfl] at HB
    have HX := Lib.hid (fun w => Suffix_any s 93 w hs)
    rw [show ((93 : UInt8).toNat : Int) = 93 from rfl] at HX
    cases hx : ends s 93
    · rw [hx] at HX HB
      clear hh hx
      go_enter Tryz.func87, Tryz.ntmps87
      go_wp2_with fail
      refine (HP.out _).mono ?_
      rintro e w1 ⟨rfl, rfl⟩
      go_wp2_with fail
      refine (HX.out _).mono ?_
      rintro e w1 ⟨rfl, rfl⟩
      go_wp2
      go_ret
      exact ⟨ret_bool (by rw [HB.out]; rfl), Below.refl _ _⟩
    · rw [hx] at HX HB
      have h2 : 2 ≤ s.size := by
        simp only [heads, ends, Bool.and_eq_true, decide_eq_true_eq] at hh hx
        rcases Nat.lt_or_ge s.size 2 with h1 | h1
        · have h3 := hh.1
          have h4 := hh.2
          have h5 := hx.2
          rw [show s.size - 1 = 0 by omega, h4] at h5
          omega
        · exact h1
      have hz := ext_size s (a := 1) (b := s.size - 1) (by omega) (by omega)
      have HA := Lib.hid (fun w hg => isAddress_any (s.extract 1 (s.size - 1)) w (by omega) hg)
      have i1 : ((s.size : Int) - 1).toNat = s.size - 1 := by omega
      have l1 : (1 : Int) ≤ (s.size : Int) - 1 := by omega
      clear hh hx hz
      generalize isAddr (s.extract 1 (s.size - 1)) = r at *
      go_enter Tryz.func87, Tryz.ntmps87
      go_wp2_with fail
      refine (HP.out _).mono ?_
      rintro e w1 ⟨rfl, rfl⟩
      go_wp2_with fail
      refine (HX.out _).mono ?_
      rintro e w1 ⟨rfl, rfl⟩
      go_wp2_with fail
      refine (HA.out _ hg).mono ?_
      rintro e w1 ⟨rfl, b1⟩
      go_wp2
      go_ret
      exact ⟨ret_bool (by rw [HB.out]; rfl), b1⟩
end Go.Proofs.YtjlnbjlhlglneaaGreatDoor
