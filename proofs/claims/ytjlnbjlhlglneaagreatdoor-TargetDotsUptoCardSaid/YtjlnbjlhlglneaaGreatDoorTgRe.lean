/-
  Where a reference leads to: the walks, of the program and of the reference.
-/
import Derived.Test.YtjlnbjlhlglneaaGreatDoorTgRz
import Derived.Test.YtjlnbjlhlglneaaGreatDoorTgRn
namespace Go.Proofs.YtjlnbjlhlglneaaGreatDoor
open Go.RowKit Go.Shelf Go.Lib

def resVal (path ref : ByteArray) : Value := .tuple #[.string (resR path ref).1, .int .i64 (resR path ref).2]
theorem res_no {path ref : ByteArray} (h : isPathB path = false) : resVal path ref = .tuple #[.string ⟨#[]⟩, .int .i64 53] := by
  unfold resVal
  rw [resR_ref, if_neg (by rw [h]; simp)]
theorem res_sign {path ref : ByteArray} (h : ¬ pathStop ref = ref.size) : resVal path ref = .tuple #[.string ⟨#[]⟩, .int .i64 53] := by
  unfold resVal resR
  rw [if_neg (fun e => h e.2)]
theorem res_empty {path ref : ByteArray} (h : isPathB path = true) (hz : ref.size = 0) : resVal path ref = normVal path := by
  unfold resVal
  rw [resR_ref, if_pos h, if_pos hz]
  rfl
theorem res_root {path ref : ByteArray} (h : isPathB path = true) (hz : ¬ ref.size = 0) (h47 : bt ref 0 = 47) : resVal path ref = normVal ref := by
  unfold resVal
  rw [resR_ref, if_pos h, if_neg hz, if_pos h47]
  rfl
theorem res_join {path ref : ByteArray} (h : isPathB path = true) (hz : ¬ ref.size = 0) (h47 : ¬ bt ref 0 = 47) : resVal path ref = normVal (path.extract 0 (lastSlash path path.size) ++ ref) := by
  unfold resVal
  rw [resR_ref, if_pos h, if_neg hz, if_neg h47]
  rfl
theorem Last_any (s : ByteArray) (w : World) (hs : s.size ≤ 4194304) :
    Calls Tryz.prog 46 #[.string s, .int .u8 47] w fun e w' => e = .returned (.int .i64 ((lastSlash s s.size : Int) - 1)) ∧ w = w' :=
  (Tryz.strings_LastIndexByte s 47 (by omega) w).mono fun _ _ ⟨he, hw⟩ => ⟨by rw [he]; exact ret_int (by have := last_index s; omega), hw.symm⟩
set_option maxRecDepth 100000 in
set_option maxHeartbeats 4000000 in
theorem Resolve_any (s r : ByteArray) (w : World) (hs : s.size + r.size ≤ 4194304) (hg : Glob w) :
    Calls Tryz.prog 21 #[.string s, .string r] w fun e w' => e = .returned (resVal s r) ∧ Below w.heap.size w w' := by
  have HP := Lib.hid (fun w => isPath_any s w (by omega))
  have HS := Lib.hid (fun w => signs_path r w (by omega))
  cases hp : isPathB s
  · rw [res_no hp]
    rw [hp] at HP
    clear hp
    go_enter Tryz.func21, Tryz.ntmps21
    go_wp2_with fail
    refine (HP.out _).mono ?_
    rintro e w1 ⟨rfl, q, rfl⟩
    go_wp2
    go_ret2
    exact ⟨rfl, below_drewN (Below.refl _ _) q⟩
  · rw [hp] at HP
    by_cases hr : pathStop r = r.size
    · have t1 : ((pathStop r : Int) != (r.size : Int)) = false := by rw [hr]; simp
      have t2 : (pathStop r != r.size) = false := by rw [hr]; simp
      have hN := Lib.hid (fun s hs w hg => Normal_any s w hs hg)
      generalize pathStop r = n at *
      by_cases hz : r.size = 0
      · have he : r.toList.isEmpty = true := by rw [empty_eq]; exact decide_eq_true hz
        rw [res_empty hp hz]
        have HN := Lib.hid (fun w hg => hN.out s (by omega) w hg)
        unfold normVal at HN ⊢
        generalize normR s = g at *
        clear hz hr hp hN
        go_enter Tryz.func21, Tryz.ntmps21
        go_wp2_with fail
        refine (HP.out _).mono ?_
        rintro e w1 ⟨rfl, q, rfl⟩
        go_wp2_with fail
        refine (HS.out _).mono ?_
        rintro e w1 ⟨rfl, q2, rfl⟩
        go_wp2_with fail
        refine (HN.out _ (hg.beyond (by (repeat (with_reducible refine below_drewN ?_ _)); exact Below.refl _ _))).mono ?_
        rintro e w2 ⟨rfl, b2⟩
        go_wp2
        go_ret2
        exact ⟨rfl, Below.trans (by (repeat (with_reducible refine below_drewN ?_ _)); exact Below.refl _ _) b2⟩
      · have he : r.toList.isEmpty = false := by rw [empty_eq]; exact decide_eq_false hz
        have hlt : 0 < r.size := by omega
        have hb := @bt_eq r 0 hlt
        by_cases h47 : bt r 0 = 47
        · have hh : (bt r 0 == 47) = true := by rw [h47]; rfl
          rw [res_root hp hz h47]
          have HN := Lib.hid (fun w hg => hN.out r (by omega) w hg)
          unfold normVal at HN ⊢
          generalize normR r = g at *
          clear hz hr hp h47 hN
          go_enter Tryz.func21, Tryz.ntmps21
          go_wp2_with fail
          refine (HP.out _).mono ?_
          rintro e w1 ⟨rfl, q, rfl⟩
          go_wp2_with fail
          refine (HS.out _).mono ?_
          rintro e w1 ⟨rfl, q2, rfl⟩
          go_wp2_with fail
          refine (HN.out _ (hg.beyond (by (repeat (with_reducible refine below_drewN ?_ _)); exact Below.refl _ _))).mono ?_
          rintro e w2 ⟨rfl, b2⟩
          go_wp2
          go_ret2
          exact ⟨rfl, Below.trans (by (repeat (with_reducible refine below_drewN ?_ _)); exact Below.refl _ _) b2⟩
        · have hh : (bt r 0 == 47) = false := by simpa using h47
          rw [res_join hp hz h47]
          have HL := Lib.hid (fun w => Last_any s w (by omega))
          have hk := slash_le s s.size
          have hz2 : (s.extract 0 (lastSlash s s.size) ++ r).size ≤ 4194304 := by rw [add_size, ext_size s (by omega) hk]; omega
          have HN := Lib.hid (fun w hg => hN.out (s.extract 0 (lastSlash s s.size) ++ r) hz2 w hg)
          unfold normVal at HN ⊢
          generalize normR (s.extract 0 (lastSlash s s.size) ++ r) = g at *
          have hz3 := ext_size s (a := 0) (b := lastSlash s s.size) (by omega) hk
          generalize lastSlash s s.size = k at *
          have hz4 : (s.extract 0 k).size ≤ 4194304 := by omega
          have hki : (k : Int) ≤ (s.size : Int) := by omega
          have hk0 : 0 ≤ (k : Int) := by omega
          clear hz hr hp h47 hN hz2 hz3
          go_enter Tryz.func21, Tryz.ntmps21
          go_wp2_with fail
          refine (HP.out _).mono ?_
          rintro e w1 ⟨rfl, q, rfl⟩
          go_wp2_with fail
          refine (HS.out _).mono ?_
          rintro e w1 ⟨rfl, q2, rfl⟩
          go_wp2_with fail
          refine (HL.out _).mono ?_
          rintro e w1 ⟨rfl, rfl⟩
          go_wp2_with fail
          refine (HN.out _ (hg.beyond (by (repeat (with_reducible refine below_drewN ?_ _)); exact Below.refl _ _))).mono ?_
          rintro e w2 ⟨rfl, b2⟩
          go_wp2
          go_ret2
          exact ⟨rfl, Below.trans (by (repeat (with_reducible refine below_drewN ?_ _)); exact Below.refl _ _) b2⟩
    · have t1 : ((pathStop r : Int) != (r.size : Int)) = true := by rw [bne_iff_ne]; omega
      have t2 : (pathStop r != r.size) = true := by rw [bne_iff_ne]; exact hr
      rw [res_sign hr]
      generalize pathStop r = n at *
      clear hr hp
      go_enter Tryz.func21, Tryz.ntmps21
      go_wp2_with fail
      refine (HP.out _).mono ?_
      rintro e w1 ⟨rfl, q, rfl⟩
      go_wp2_with fail
      refine (HS.out _).mono ?_
      rintro e w1 ⟨rfl, q2, rfl⟩
      go_wp2
      go_ret2
      exact ⟨rfl, by (repeat (with_reducible refine below_drewN ?_ _)); exact Below.refl _ _⟩
set_option maxRecDepth 100000 in
set_option maxHeartbeats 4000000 in
theorem rResolve_any (s r : ByteArray) (w : World) (hs : s.size + r.size ≤ 4194304) :
    Calls Tryz.prog 22 #[.string s, .string r] w fun e w' => e = .returned (resVal s r) ∧ Below w.heap.size w w' := by
  have HP := Lib.hid (fun w => rIsPath_any s w (by omega))
  cases hp : isPathB s
  · rw [res_no hp]
    rw [hp] at HP
    clear hp
    go_enter Tryz.func22, Tryz.ntmps22
    go_wp2_with fail
    refine (HP.out _).mono ?_
    rintro e w1 ⟨rfl, rfl⟩
    go_wp2
    go_ret2
    exact ⟨rfl, Below.refl _ _⟩
  · rw [hp] at HP
    have hN := Lib.hid (fun s hs w => rNormal_any s w hs)
    by_cases hz : r.size = 0
    · have he : r.toList.isEmpty = true := by rw [empty_eq]; exact decide_eq_true hz
      rw [res_empty hp hz]
      have HN := Lib.hid (fun w => hN.out s (by omega) w)
      unfold normVal at HN ⊢
      generalize normR s = g at *
      clear hz hp hN
      go_enter Tryz.func22, Tryz.ntmps22
      go_wp2_with fail
      refine (HP.out _).mono ?_
      rintro e w1 ⟨rfl, rfl⟩
      go_wp2_with fail
      refine (HN.out _).mono ?_
      rintro e w2 ⟨rfl, b2⟩
      go_wp2
      go_ret2
      exact ⟨rfl, b2⟩
    · have he : r.toList.isEmpty = false := by rw [empty_eq]; exact decide_eq_false hz
      have hlt : 0 < r.size := by omega
      have hb := @bt_eq r 0 hlt
      by_cases h47 : bt r 0 = 47
      · have hh : (bt r 0 == 47) = true := by rw [h47]; rfl
        rw [res_root hp hz h47]
        have HN := Lib.hid (fun w => hN.out r (by omega) w)
        unfold normVal at HN ⊢
        generalize normR r = g at *
        clear hz hp h47 hN
        go_enter Tryz.func22, Tryz.ntmps22
        go_wp2_with fail
        refine (HP.out _).mono ?_
        rintro e w1 ⟨rfl, rfl⟩
        go_wp2_with fail
        refine (HN.out _).mono ?_
        rintro e w2 ⟨rfl, b2⟩
        go_wp2
        go_ret2
        exact ⟨rfl, b2⟩
      · have hh : (bt r 0 == 47) = false := by simpa using h47
        rw [res_join hp hz h47]
        obtain ⟨s0, s1, _⟩ := path_parts hp
        have hk := slash_le s s.size
        have hkp := slash_pos s s1 s.size s0
        have hz2 : (s.extract 0 (lastSlash s s.size) ++ r).size ≤ 4194304 := by rw [add_size, ext_size s (by omega) hk]; omega
        have HN := Lib.hid (fun w => hN.out (s.extract 0 (lastSlash s s.size) ++ r) hz2 w)
        unfold normVal at HN ⊢
        generalize normR (s.extract 0 (lastSlash s s.size) ++ r) = g at *
        have hz3 := ext_size s (a := 0) (b := lastSlash s s.size) (by omega) hk
        obtain ⟨k, hke⟩ : ∃ k, lastSlash s s.size = k := ⟨_, rfl⟩
        rw [hke] at hk hkp HN hz3
        have HKE := Lib.hid hke
        have hz4 : (s.extract 0 k).size ≤ 4194304 := by omega
        have hki : (k : Int) ≤ (s.size : Int) := by omega
        have hk0 : 0 ≤ (k : Int) := by omega
        have HS1 := Lib.hid s1
        clear hz hp h47 hN hz2 hz3 hke s1
        go_enter Tryz.func22, Tryz.ntmps22
        go_wp2_with fail
        refine (HP.out _).mono ?_
        rintro e w1 ⟨rfl, rfl⟩
        go_wp2_with fail
        go_loop [6] (fun v => ∃ m : Nat, v = .int .i64 ((m : Int) + 1) ∧ m < s.size ∧ lastSlash s (m + 1) = k) (fun v => (RowKit.intOf v).toNat)
        case atStart => exact ⟨s.size - 1, congrArg (Value.int .i64) (by omega), by omega, by rw [show s.size - 1 + 1 = s.size by omega]; exact HKE.out⟩
        case round =>
          obtain ⟨m, rfl, hm, hl⟩ := hrel
          have hbm := @bt_eq s m hm
          have hmi : (m : Int) < (s.size : Int) := by omega
          by_cases hb47 : bt s m = 47
          · have hn47 : (bt s m != 47) = false := by rw [hb47]; rfl
            have hmk : m + 1 = k := by
              unfold lastSlash at hl
              rw [if_pos hb47] at hl
              exact hl
            clear hl hb47
            subst hmk
            rw [Int.natCast_add] at *
            go_wp2_with fail
            refine (HN.out _).mono ?_
            rintro e w2 ⟨rfl, b2⟩
            go_wp2
            go_ret2
            exact ⟨rfl, b2⟩
          · have hn47 : (bt s m != 47) = true := by simpa using hb47
            have hm0 : 1 ≤ m := by
              rcases Nat.eq_zero_or_pos m with h | h
              · subst h
                exact absurd HS1.out hb47
              · exact h
            have hl2 : lastSlash s m = k := by
              unfold lastSlash at hl
              rw [if_neg hb47] at hl
              exact hl
            have HL2 := Lib.hid hl2
            clear hl hb47 hl2
            go_wp2
            go_round
            case rel => exact ⟨m - 1, congrArg (Value.int .i64) (by omega), by omega, by rw [show m - 1 + 1 = m by omega]; exact HL2.out⟩
            case measure => simp [RowKit.intOf]
end Go.Proofs.YtjlnbjlhlglneaaGreatDoor
