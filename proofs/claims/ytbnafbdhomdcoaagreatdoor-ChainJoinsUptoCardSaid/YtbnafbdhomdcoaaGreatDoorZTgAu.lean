/-
 TgAu, without what this claim does not reach.
-/
import Derived.Test.YtbnafbdhomdcoaaGreatDoorZm24
namespace Go.Proofs.YtbnafbdhomdcoaaGreatDoor.T5
open Go.RowKit Go.Shelf Go.Lib
def authVal (r : ByteArray × Int × Int) : Value := .tuple #[.string r.1, .int .i64 r.2.1, .int .i64 r.2.2]
theorem heads_iff {s : ByteArray} {c : Int} : heads s c = true ↔ (0 < s.size ∧ bt s 0 = c) := by simp [heads]
theorem portR_long {h t : ByteArray} (hl : 5 < t.size) : portR h t = authBad := by unfold portR; rw [if_pos hl]
theorem portR_none {h t : ByteArray} (hz : t.size = 0) : portR h t = (lower h, -1, 0) := by unfold portR; rw [if_neg (by omega), if_pos hz]
theorem portR_ok {h t : ByteArray} (hl : ¬ 5 < t.size) (hz : ¬ t.size = 0) (hn : (numR t 65535 10).2 = 0) : portR h t = (lower h, (numR t 65535 10).1, 0) := by unfold portR; rw [if_neg hl, if_neg hz, if_pos hn]
theorem portR_bad {h t : ByteArray} (hl : ¬ 5 < t.size) (hz : ¬ t.size = 0) (hn : ¬ (numR t 65535 10).2 = 0) : portR h t = authBad := by unfold portR; rw [if_neg hl, if_neg hz, if_neg hn]
section
variable {s : ByteArray} {k : Nat}
theorem auth_name (h : heads s 91 = false) : authR s = if isNameH (cutW s 58).1 = true then portR (cutW s 58).1 (cutW s 58).2.1 else authBad := by
 unfold authR
 rw [if_neg (fun h2 => by rw [heads_iff.2 h2] at h; cases h)]
theorem auth_open (h : heads s 91 = true) (hp : place s 93 = s.size) : authR s = authBad := by
 unfold authR
 rw [if_pos (heads_iff.1 h), if_neg (by omega)]
theorem auth_bare (h : heads s 91 = true) (hk : k + 1 = s.size) (hp : place s 93 = k) : authR s = if isAddr (s.extract 1 k) = true then (lower s, -1, 0) else authBad := by
 unfold authR
 rw [if_pos (heads_iff.1 h), hp, if_pos (by omega), if_pos hk]
theorem auth_port (h : heads s 91 = true) (hk : k + 1 < s.size) (hp : place s 93 = k) (hb : bt s (k + 1) = 58) : authR s = if isAddr (s.extract 1 k) = true then portR (s.extract 0 (k + 1)) (s.extract (k + 2) s.size) else authBad := by
 unfold authR
 rw [if_pos (heads_iff.1 h), hp, if_pos (by omega), if_neg (show ¬ k + 1 = s.size by omega), if_pos hb]
theorem auth_junk (h : heads s 91 = true) (hk : k + 1 < s.size) (hp : place s 93 = k) (hb : ¬ bt s (k + 1) = 58) : authR s = authBad := by
 unfold authR
 rw [if_pos (heads_iff.1 h), hp, if_pos (by omega), if_neg (show ¬ k + 1 = s.size by omega), if_neg hb]
 split <;> rfl
theorem cut_heads (h : heads s 91 = false) : heads (cutW s 58).1 91 = false := by
 rcases place_spec s 58 with ⟨hp, _⟩ | ⟨k, hp, hk, _⟩
 ·rw [cutW_miss hp]; exact h
 ·rw [cutW_hit hk hp]
  have hz := ext_size s (a := 0) (b := k) (by omega) (by omega)
  cases e : heads (s.extract 0 k) 91
  ·rfl
  ·obtain ⟨h1, h2⟩ := heads_iff.1 e
   have := ext_bt s (a := 0) (b := k) (j := 0) (by omega)
   rw [Nat.zero_add] at this
   rw [this] at h2
   rw [heads_iff.2 ⟨by omega, h2⟩] at h
   cases h
theorem host_name (h : heads s 91 = false) : hostB5 (cutW s 58).1 = isNameH (cutW s 58).1 := by unfold hostB5; rw [cut_heads h, if_neg (by simp)]
theorem host_open (h : heads s 91 = true) (hp : place s 93 = s.size) : hostB5 (cutW s 58).1 = false := by
 obtain ⟨h0, h1⟩ := heads_iff.1 h
 have hno : ∀ j, j < s.size → bt s j ≠ 93 := by
  rcases place_spec s 93 with ⟨_, hn⟩ | ⟨k, hk, hl, _⟩
  ·exact hn
  ·omega
 have key : ∀ t : ByteArray, (∃ k, 0 < k ∧ k ≤ s.size ∧ t = s.extract 0 k) → hostB5 t = false := by
  rintro t ⟨k, hk0, hk, rfl⟩
  have hz := ext_size s (a := 0) (b := k) (by omega) hk
  have hb : ∀ j, j < k → bt (s.extract 0 k) j = bt s j := fun j hj => by
   have := ext_bt s (a := 0) (b := k) (j := j) (by omega)
   rwa [Nat.zero_add] at this
  unfold hostB5
  rw [if_pos (heads_iff.2 ⟨by omega, by rw [hb 0 hk0]; exact h1⟩)]
  have : ends (s.extract 0 k) 93 = false := by
   unfold ends
   rw [decide_eq_false (show ¬ bt (s.extract 0 k) ((s.extract 0 k).size - 1) = 93 by rw [hz, hb _ (by omega)]; exact hno _ (by omega))]
   simp
  rw [this]
  rfl
 rcases place_spec s 58 with ⟨hp2, _⟩ | ⟨k, hp2, hk, hb, _⟩
 ·rw [cutW_miss hp2]
  exact key s ⟨s.size, h0, Nat.le_refl _, (bytes_ext (by rw [ext_front, ← size_eq, List.take_length])).symm⟩
 ·rw [cutW_hit hk hp2]
  refine key _ ⟨k, ?_, by omega, rfl⟩
  rcases Nat.eq_zero_or_pos k with h2 | h2
  ·rw [h2, h1] at hb; omega
  ·exact h2
theorem host_addr (h : heads s 91 = true) (hk : k < s.size) (hp : place s 93 = k) : hostB5 (s.extract 0 (k + 1)) = isAddr (s.extract 1 k) := by
 obtain ⟨h0, h1⟩ := heads_iff.1 h
 have hz := ext_size s (a := 0) (b := k + 1) (by omega) (by omega)
 have hb : ∀ j, j < k + 1 → bt (s.extract 0 (k + 1)) j = bt s j := fun j hj => by
  have := ext_bt s (a := 0) (b := k + 1) (j := j) (by omega)
  rwa [Nat.zero_add] at this
 have hbk : bt s k = 93 := by
  rcases place_spec s 93 with ⟨h2, _⟩ | ⟨q, h2, _, h3, _⟩
  ·omega
  ·rw [hp] at h2; rw [h2]; exact h3
 unfold hostB5
 rw [if_pos (heads_iff.2 ⟨by omega, by rw [hb 0 (by omega)]; exact h1⟩)]
 have he : ends (s.extract 0 (k + 1)) 93 = true := by
  unfold ends
  rw [hz, show k + 1 - 0 - 1 = k by omega, hb k (by omega), hbk, decide_eq_true (show 0 < k + 1 - 0 by omega)]
  rfl
 rw [he, Bool.true_and, hz, show k + 1 - 0 - 1 = k by omega]
 congr 1
 apply bytes_ext
 rw [Lib.extract_data, Lib.extract_data, Lib.extract_data, List.drop_zero, List.drop_take, List.take_take]
 congr 1 <;> omega
theorem place_pos (h : heads s 91 = true) (hp : place s 93 = k) : 0 < k := by
 obtain ⟨h0, h1⟩ := heads_iff.1 h
 rcases place_spec s 93 with ⟨h2, _⟩ | ⟨q, h2, _, h3, _⟩
 ·omega
 ·rw [hp] at h2
  rcases Nat.eq_zero_or_pos k with h4 | h4
  ·rw [h4] at h2
   subst h2
   rw [h1] at h3; omega
  ·exact h4
theorem findB_of (hk : k < s.size) {c : Int} (hp : place s c = k) : findB s c = k := by unfold findB; rw [hp, if_neg (by omega)]
theorem findB_no {c : Int} (hp : place s c = s.size) : findB s c = -1 := by unfold findB; rw [if_pos hp]
end
set_option maxRecDepth 20000 in
set_option maxHeartbeats 8000000 in
theorem Authority_any (s : ByteArray) (w : World) (hs : s.size ≤ 4194304) (hg : Glob w) :
  Calls Tryz.prog 114 #[.string s] w fun e w' => e = .returned (authVal (authR s)) ∧ Below w.heap.size w w' := by
 have HI := Lib.hid (fun w => IndexByte_any s 93 w (by omega) (by omega))
 have HP := Lib.hid (fun w => Prefix_any s 91 w)
 rw [show ((91 : UInt8).toNat : Int) = 91 from rfl] at HP
 have HC := Lib.hid (fun w hg => Cut_any s 58 w hs hg)
 rw [show ((58 : UInt8).toNat : Int) = 58 from rfl] at HC
 unfold cutVal at HC
 cases hh : heads s 91
 ·rw [hh] at HP
  have ha := auth_name hh
  have hn := host_name hh
  have hz := cutW_size s 58
  generalize cutW s 58 = r at *
  obtain ⟨h, t, fl⟩ := r
  dsimp only at HC ha hn hz
  have hts : t.size ≤ s.size := hz.2.1
  have HH := Lib.hid (fun w hg => isHost_any h w (by omega) hg)
  have HL := Lib.hid (fun w => Lower_any h w (by unfold maxLen; omega))
  rw [hn] at HH
  generalize isNameH h = b at *
  have HA := Lib.hid (fun hb : b = false => ha.trans (if_neg (by rw [hb]; simp)))
  have HB := Lib.hid (fun hb : b = true => ha.trans (if_pos hb))
  clear hh ha hn hz
  cases b
  ·have HZ := Lib.hid (HA.out rfl)
   go_enter Tryz.func114, Tryz.ntmps114
   go_wp2_with fail
   refine (HI.out _).mono ?_
   rintro e w1 ⟨rfl, rfl⟩
   go_wp2_with fail
   refine (HP.out _).mono ?_
   rintro e w1 ⟨rfl, rfl⟩
   go_wp2_with fail
   refine (HC.out _ hg).mono ?_
   rintro e w1 ⟨rfl, q, rfl⟩
   go_wp2_with fail
   refine (HH.out _ (hg.drewN _)).mono ?_
   rintro e w2 ⟨rfl, b2⟩
   have B2 := (below_drewN (Below.refl w.heap.size w) _).trans b2
   clear b2
   go_wp2
   go_ret3
   exact ⟨by rw [HZ.out]; rfl, B2⟩
  ·have HY := Lib.hid (HB.out rfl)
   by_cases hl : 5 < t.size
   ·have HZ := Lib.hid (HY.out.trans (portR_long hl))
    go_enter Tryz.func114, Tryz.ntmps114
    go_wp2_with fail
    refine (HI.out _).mono ?_
    rintro e w1 ⟨rfl, rfl⟩
    go_wp2_with fail
    refine (HP.out _).mono ?_
    rintro e w1 ⟨rfl, rfl⟩
    go_wp2_with fail
    refine (HC.out _ hg).mono ?_
    rintro e w1 ⟨rfl, q, rfl⟩
    go_wp2_with fail
    refine (HH.out _ (hg.drewN _)).mono ?_
    rintro e w2 ⟨rfl, b2⟩
    have B2 := (below_drewN (Below.refl w.heap.size w) _).trans b2
    clear b2
    go_wp2
    go_ret3
    exact ⟨by rw [HZ.out]; rfl, B2⟩
   ·by_cases hz : t.size = 0
    ·have HZ := Lib.hid (HY.out.trans (portR_none hz))
     have he2 : t.toList.isEmpty = true := by rw [empty_eq]; exact decide_eq_true hz
     clear hz
     go_enter Tryz.func114, Tryz.ntmps114
     go_wp2_with fail
     refine (HI.out _).mono ?_
     rintro e w1 ⟨rfl, rfl⟩
     go_wp2_with fail
     refine (HP.out _).mono ?_
     rintro e w1 ⟨rfl, rfl⟩
     go_wp2_with fail
     refine (HC.out _ hg).mono ?_
     rintro e w1 ⟨rfl, q, rfl⟩
     go_wp2_with fail
     refine (HH.out _ (hg.drewN _)).mono ?_
     rintro e w2 ⟨rfl, b2⟩
     have B2 := (below_drewN (Below.refl w.heap.size w) _).trans b2
     clear b2
     go_wp2_with fail
     refine (HL.out _).mono ?_
     rintro e w3 ⟨rfl, b3⟩
     have B3 := B2.trans (b3.mono B2.size)
     clear b3 B2
     go_wp2
     go_ret3
     exact ⟨by rw [HZ.out]; rfl, B3⟩
    ·have he2 : t.toList.isEmpty = false := by rw [empty_eq]; exact decide_eq_false hz
     have hpo := @portR_ok h t hl hz
     have hpb := @portR_bad h t hl hz
     have HD := Lib.hid (fun w => Decimal_any t 65535 w (by omega) (by omega) (by omega))
     generalize numR t 65535 10 = r at *
     obtain ⟨n, er⟩ := r
     dsimp only at HD hpo hpb
     by_cases he0 : er = 0
     ·have hee : (er != 0) = false := by simp [he0]
      have HZ := Lib.hid (HY.out.trans (hpo he0))
      clear hz hpo hpb he0
      go_enter Tryz.func114, Tryz.ntmps114
      go_wp2_with fail
      refine (HI.out _).mono ?_
      rintro e w1 ⟨rfl, rfl⟩
      go_wp2_with fail
      refine (HP.out _).mono ?_
      rintro e w1 ⟨rfl, rfl⟩
      go_wp2_with fail
      refine (HC.out _ hg).mono ?_
      rintro e w1 ⟨rfl, q, rfl⟩
      go_wp2_with fail
      refine (HH.out _ (hg.drewN _)).mono ?_
      rintro e w2 ⟨rfl, b2⟩
      have B2 := (below_drewN (Below.refl w.heap.size w) _).trans b2
      clear b2
      go_wp2_with fail
      refine (HD.out _).mono ?_
      rintro e w3 ⟨rfl, b3⟩
      have B3 := B2.trans (b3.mono B2.size)
      clear b3 B2
      go_wp2_with fail
      refine (HL.out _).mono ?_
      rintro e w4 ⟨rfl, b4⟩
      have B4 := B3.trans (b4.mono B3.size)
      clear b4 B3
      go_wp2
      go_ret3
      exact ⟨by rw [HZ.out]; rfl, B4⟩
     ·have hee : (er != 0) = true := by simpa using he0
      have HZ := Lib.hid (HY.out.trans (hpb he0))
      clear hz hpo hpb he0
      go_enter Tryz.func114, Tryz.ntmps114
      go_wp2_with fail
      refine (HI.out _).mono ?_
      rintro e w1 ⟨rfl, rfl⟩
      go_wp2_with fail
      refine (HP.out _).mono ?_
      rintro e w1 ⟨rfl, rfl⟩
      go_wp2_with fail
      refine (HC.out _ hg).mono ?_
      rintro e w1 ⟨rfl, q, rfl⟩
      go_wp2_with fail
      refine (HH.out _ (hg.drewN _)).mono ?_
      rintro e w2 ⟨rfl, b2⟩
      have B2 := (below_drewN (Below.refl w.heap.size w) _).trans b2
      clear b2
      go_wp2_with fail
      refine (HD.out _).mono ?_
      rintro e w3 ⟨rfl, b3⟩
      have B3 := B2.trans (b3.mono B2.size)
      clear b3 B2
      go_wp2
      go_ret3
      exact ⟨by rw [HZ.out]; rfl, B3⟩
 ·rw [hh] at HP
  rcases place_spec s 93 with ⟨hp, _⟩ | ⟨k, hp, hk, _⟩
  ·have HZ := Lib.hid (auth_open hh hp)
   have hn := host_open hh hp
   have hz := cutW_size s 58
   rw [findB_no hp] at HI
   generalize cutW s 58 = r at *
   obtain ⟨h, t, fl⟩ := r
   dsimp only at HC hn hz
   have HH := Lib.hid (fun w hg => isHost_any h w (by omega) hg)
   rw [hn] at HH
   clear hh hn hz hp
   go_enter Tryz.func114, Tryz.ntmps114
   go_wp2_with fail
   refine (HI.out _).mono ?_
   rintro e w1 ⟨rfl, rfl⟩
   go_wp2_with fail
   refine (HP.out _).mono ?_
   rintro e w1 ⟨rfl, rfl⟩
   go_wp2_with fail
   refine (HC.out _ hg).mono ?_
   rintro e w1 ⟨rfl, q, rfl⟩
   go_wp2_with fail
   refine (HH.out _ (hg.drewN _)).mono ?_
   rintro e w2 ⟨rfl, b2⟩
   have B2 := (below_drewN (Below.refl w.heap.size w) _).trans b2
   go_wp2
   go_ret3
   exact ⟨by rw [HZ.out]; rfl, B2⟩
  ·have hk0 := place_pos hh hp
   rw [findB_of hk hp] at HI
   have hkp : (0 : Int) < (k : Int) := by omega
   have hw1 : IntKind.i64.wrap ((k : Int) + 1) = (k : Int) + 1 := IntWalk.i64_in _ (by omega)
   have k1 : (0 : Int) ≤ (k : Int) + 1 := by omega
   have k2 : (k : Int) + 1 ≤ (s.size : Int) := by omega
   have k3 : ((k : Int) + 1).toNat = k + 1 := by omega
   have hz1 := ext_size s (a := 0) (b := k + 1) (by omega) (by omega)
   have hz2 := ext_size s (a := k + 1) (b := s.size) (by omega) (by omega)
   have hn := host_addr hh hk hp
   have HH := Lib.hid (fun w hg => isHost_any (s.extract 0 (k + 1)) w (by omega) hg)
   have HL := Lib.hid (fun w => Lower_any (s.extract 0 (k + 1)) w (by unfold maxLen; omega))
   rw [hn] at HH
   by_cases hend : k + 1 = s.size
   ·have ha := auth_bare hh hend hp
    have he : (s.extract (k + 1) s.size).toList.isEmpty = true := by rw [empty_eq]; exact decide_eq_true (by omega)
    have HT := Lib.hid (fun w => TrimPrefix_any (s.extract (k + 1) s.size) 58 w)
    have hno : heads (s.extract (k + 1) s.size) ((58 : UInt8).toNat : Int) = false := by unfold heads; rw [decide_eq_false (by omega)]; rfl
    rw [hno, if_neg (by simp)] at HT
    rw [show lower s = lower (s.extract 0 (k + 1)) by rw [hend]; congr 1; exact (bytes_ext (by rw [ext_front, ← size_eq, List.take_length])).symm] at ha
    generalize isAddr (s.extract 1 k) = b at *
    have HA := Lib.hid (fun hb : b = false => ha.trans (if_neg (by rw [hb]; simp)))
    have HB := Lib.hid (fun hb : b = true => ha.trans (if_pos hb))
    have hl5 : ((s.size - (k + 1) : Nat) : Int) ≤ 5 := by omega
    clear hh ha hn hp hno hz1 hz2 hend HC
    cases b
    ·have HZ := Lib.hid (HA.out rfl)
     go_enter Tryz.func114, Tryz.ntmps114
     go_wp2_with fail
     refine (HI.out _).mono ?_
     rintro e w1 ⟨rfl, rfl⟩
     go_wp2_with fail
     refine (HP.out _).mono ?_
     rintro e w1 ⟨rfl, rfl⟩
     go_wp2_with fail
     go_quiet (fail)
     go_wp2_with fail
     refine (HT.out _).mono ?_
     rintro e w1 ⟨rfl, rfl⟩
     go_wp2_with fail
     refine (HH.out _ (hg.drewN _)).mono ?_
     rintro e w2 ⟨rfl, b2⟩
     have B2 := (below_drewN (Below.refl w.heap.size w) _).trans b2
     clear b2
     go_wp2
     go_ret3
     exact ⟨by rw [HZ.out]; rfl, B2⟩
    ·have HZ := Lib.hid (HB.out rfl)
     go_enter Tryz.func114, Tryz.ntmps114
     go_wp2_with fail
     refine (HI.out _).mono ?_
     rintro e w1 ⟨rfl, rfl⟩
     go_wp2_with fail
     refine (HP.out _).mono ?_
     rintro e w1 ⟨rfl, rfl⟩
     go_wp2_with fail
     go_quiet (fail)
     go_wp2_with fail
     refine (HT.out _).mono ?_
     rintro e w1 ⟨rfl, rfl⟩
     go_wp2_with fail
     refine (HH.out _ (hg.drewN _)).mono ?_
     rintro e w2 ⟨rfl, b2⟩
     have B2 := (below_drewN (Below.refl w.heap.size w) _).trans b2
     clear b2
     go_wp2_with fail
     refine (HL.out _).mono ?_
     rintro e w3 ⟨rfl, b3⟩
     have B3 := B2.trans (b3.mono B2.size)
     go_wp2
     go_ret3
     exact ⟨by rw [HZ.out]; rfl, B3⟩
   ·have hlt : k + 1 < s.size := by omega
    have he : (s.extract (k + 1) s.size).toList.isEmpty = false := by rw [empty_eq]; exact decide_eq_false (by omega)
    have hpos : 0 < (s.extract (k + 1) s.size).size := by omega
    have hb0 := @bt_eq (s.extract (k + 1) s.size) 0 hpos
    have hbb : bt (s.extract (k + 1) s.size) 0 = bt s (k + 1) := ext_bt s (j := 0) (by omega)
    by_cases h58 : bt s (k + 1) = 58
    ·have ha := auth_port hh hlt hp h58
     have HT := Lib.hid (fun w => TrimPrefix_any (s.extract (k + 1) s.size) 58 w)
     have hno : heads (s.extract (k + 1) s.size) ((58 : UInt8).toNat : Int) = true := heads_iff.2 ⟨hpos, by rw [hbb, h58]; rfl⟩
     have h5 : (bt (s.extract (k + 1) s.size) 0 != 58) = false := by rw [hbb, h58]; rfl
     have hzt := ext_size s (a := k + 2) (b := s.size) (by omega) (by omega)
     rw [hno, if_pos rfl, ext_ext, show k + 1 + 1 = k + 2 from rfl] at HT
     generalize s.extract (k + 2) s.size = t at *
     generalize isAddr (s.extract 1 k) = b at *
     have hts : t.size ≤ s.size := by omega
     have HA := Lib.hid (fun hb : b = false => ha.trans (if_neg (by rw [hb]; simp)))
     have HB := Lib.hid (fun hb : b = true => ha.trans (if_pos hb))
     clear hh ha hn hp hno hz1 hz2 hend HC h58 hbb hzt
     cases b
     ·have HZ := Lib.hid (HA.out rfl)
      go_enter Tryz.func114, Tryz.ntmps114
      go_wp2_with fail
      refine (HI.out _).mono ?_
      rintro e w1 ⟨rfl, rfl⟩
      go_wp2_with fail
      refine (HP.out _).mono ?_
      rintro e w1 ⟨rfl, rfl⟩
      go_wp2_with fail
      go_quiet (fail)
      go_wp2_with fail
      refine (HT.out _).mono ?_
      rintro e w1 ⟨rfl, rfl⟩
      go_wp2_with fail
      refine (HH.out _ (hg.drewN _)).mono ?_
      rintro e w2 ⟨rfl, b2⟩
      have B2 := (below_drewN (Below.refl w.heap.size w) _).trans b2
      clear b2
      go_wp2
      go_ret3
      exact ⟨by rw [HZ.out]; rfl, B2⟩
     ·have HY := Lib.hid (HB.out rfl)
      by_cases hl : 5 < t.size
      ·have HZ := Lib.hid (HY.out.trans (portR_long hl))
       go_enter Tryz.func114, Tryz.ntmps114
       go_wp2_with fail
       refine (HI.out _).mono ?_
       rintro e w1 ⟨rfl, rfl⟩
       go_wp2_with fail
       refine (HP.out _).mono ?_
       rintro e w1 ⟨rfl, rfl⟩
       go_wp2_with fail
       go_quiet (fail)
       go_wp2_with fail
       refine (HT.out _).mono ?_
       rintro e w1 ⟨rfl, rfl⟩
       go_wp2_with fail
       refine (HH.out _ (hg.drewN _)).mono ?_
       rintro e w2 ⟨rfl, b2⟩
       have B2 := (below_drewN (Below.refl w.heap.size w) _).trans b2
       clear b2
       go_wp2
       go_ret3
       exact ⟨by rw [HZ.out]; rfl, B2⟩
      ·by_cases hz : t.size = 0
       ·have HZ := Lib.hid (HY.out.trans (portR_none hz))
        have he2 : t.toList.isEmpty = true := by rw [empty_eq]; exact decide_eq_true hz
        clear hz
        go_enter Tryz.func114, Tryz.ntmps114
        go_wp2_with fail
        refine (HI.out _).mono ?_
        rintro e w1 ⟨rfl, rfl⟩
        go_wp2_with fail
        refine (HP.out _).mono ?_
        rintro e w1 ⟨rfl, rfl⟩
        go_wp2_with fail
        go_quiet (fail)
        go_wp2_with fail
        refine (HT.out _).mono ?_
        rintro e w1 ⟨rfl, rfl⟩
        go_wp2_with fail
        refine (HH.out _ (hg.drewN _)).mono ?_
        rintro e w2 ⟨rfl, b2⟩
        have B2 := (below_drewN (Below.refl w.heap.size w) _).trans b2
        clear b2
        go_wp2_with fail
        refine (HL.out _).mono ?_
        rintro e w3 ⟨rfl, b3⟩
        have B3 := B2.trans (b3.mono B2.size)
        clear b3 B2
        go_wp2
        go_ret3
        exact ⟨by rw [HZ.out]; rfl, B3⟩
       ·have he2 : t.toList.isEmpty = false := by rw [empty_eq]; exact decide_eq_false hz
        have hpo := @portR_ok (s.extract 0 (k + 1)) t hl hz
        have hpb := @portR_bad (s.extract 0 (k + 1)) t hl hz
        have HD := Lib.hid (fun w => Decimal_any t 65535 w (by omega) (by omega) (by omega))
        generalize numR t 65535 10 = r at *
        obtain ⟨n, er⟩ := r
        dsimp only at HD hpo hpb
        by_cases he0 : er = 0
        ·have hee : (er != 0) = false := by simp [he0]
         have HZ := Lib.hid (HY.out.trans (hpo he0))
         clear hz hpo hpb he0
         go_enter Tryz.func114, Tryz.ntmps114
         go_wp2_with fail
         refine (HI.out _).mono ?_
         rintro e w1 ⟨rfl, rfl⟩
         go_wp2_with fail
         refine (HP.out _).mono ?_
         rintro e w1 ⟨rfl, rfl⟩
         go_wp2_with fail
         go_quiet (fail)
         go_wp2_with fail
         refine (HT.out _).mono ?_
         rintro e w1 ⟨rfl, rfl⟩
         go_wp2_with fail
         refine (HH.out _ (hg.drewN _)).mono ?_
         rintro e w2 ⟨rfl, b2⟩
         have B2 := (below_drewN (Below.refl w.heap.size w) _).trans b2
         clear b2
         go_wp2_with fail
         refine (HD.out _).mono ?_
         rintro e w3 ⟨rfl, b3⟩
         have B3 := B2.trans (b3.mono B2.size)
         clear b3 B2
         go_wp2_with fail
         refine (HL.out _).mono ?_
         rintro e w4 ⟨rfl, b4⟩
         have B4 := B3.trans (b4.mono B3.size)
         clear b4 B3
         go_wp2
         go_ret3
         exact ⟨by rw [HZ.out]; rfl, B4⟩
        ·have hee : (er != 0) = true := by simpa using he0
         have HZ := Lib.hid (HY.out.trans (hpb he0))
         clear hz hpo hpb he0
         go_enter Tryz.func114, Tryz.ntmps114
         go_wp2_with fail
         refine (HI.out _).mono ?_
         rintro e w1 ⟨rfl, rfl⟩
         go_wp2_with fail
         refine (HP.out _).mono ?_
         rintro e w1 ⟨rfl, rfl⟩
         go_wp2_with fail
         go_quiet (fail)
         go_wp2_with fail
         refine (HT.out _).mono ?_
         rintro e w1 ⟨rfl, rfl⟩
         go_wp2_with fail
         refine (HH.out _ (hg.drewN _)).mono ?_
         rintro e w2 ⟨rfl, b2⟩
         have B2 := (below_drewN (Below.refl w.heap.size w) _).trans b2
         clear b2
         go_wp2_with fail
         refine (HD.out _).mono ?_
         rintro e w3 ⟨rfl, b3⟩
         have B3 := B2.trans (b3.mono B2.size)
         clear b3 B2
         go_wp2
         go_ret3
         exact ⟨by rw [HZ.out]; rfl, B3⟩
    ·have HZ := Lib.hid (auth_junk hh hlt hp h58)
     have h5 : (bt (s.extract (k + 1) s.size) 0 != 58) = true := by rw [hbb]; simpa using h58
     clear hh hn hp hz1 hz2 hend HC h58 hbb
     go_enter Tryz.func114, Tryz.ntmps114
     go_wp2_with fail
     refine (HI.out _).mono ?_
     rintro e w1 ⟨rfl, rfl⟩
     go_wp2_with fail
     refine (HP.out _).mono ?_
     rintro e w1 ⟨rfl, rfl⟩
     go_wp2_with fail
     go_quiet (fail)
     go_wp2
     go_ret3
     exact ⟨by rw [HZ.out]; rfl, below_drewN (Below.refl w.heap.size w) _⟩
end Go.Proofs.YtbnafbdhomdcoaaGreatDoor.T5
