/-
  The walk of TargetSteps.
-/
import Derived.Test.YtjlnbjlhlglneaaGreatDoorTgTk
import Derived.Test.YtjlnbjlhlglneaaGreatDoorTgAw
namespace Go.Proofs.YtjlnbjlhlglneaaGreatDoor
open Go.RowKit Go.Shelf Go.Lib

theorem neq_str (a b : ByteArray) : (!(a.toList == b.toList)) = !decide (a = b) := by rw [eq_str]
set_option maxRecDepth 100000 in
set_option maxHeartbeats 8000000 in
theorem TargetSteps_walk (s r : ByteArray) (w : World) (_hs : s.size ≤ maxLen) (_hr : r.size ≤ maxLen) (hk : s.size + r.size ≤ 1048576) (hg : Glob w) :
    Calls Tryz.prog 7 #[.string s, .string r] w fun e w' => e = .returned (.bool true) ∧ Below w.heap.size w w' := by
  have HN := Lib.hid (rNormal_any s w (by omega))
  have HT := Lib.hid (fun w => rIsToken_some r w (by omega))
  cases hp : isPathB s
  · unfold normVal at HN
    rw [normR_bad hp] at HN
    clear hp
    go_enter Tryz.func7, Tryz.ntmps7
    go_wp2_with fail
    refine HN.out.mono ?_
    rintro e w1 ⟨rfl, b1⟩
    go_wp2_with fail
    refine (awake_any _).mono ?_
    rintro e w2 ⟨rfl, b2⟩
    go_wp2
    go_ret
    exact ⟨rfl, b1.trans (b2.mono b1.size)⟩
  · unfold normVal at HN
    have hns := norm_size s
    have h0e : (normR s).2 = 0 := by rw [normR_segs hp]
    have HST := Lib.hid (fun h0 hd he => steps (path := s) (name := r) hp h0 hd he)
    rw [h0e] at HN
    clear h0e hp
    generalize (normR s).1 = n at *
    have t1 := dot_test r
    have t2 := dots_test r
    have HE := Lib.hid (fun w => rEncode_any r w (by omega))
    have HRA := Lib.hid (fun (x : ByteArray) (hx : x.size ≤ 1048580) w hg => Resolve_any n x w (by omega) hg)
    have hrs := Lib.hid (fun x => res_size n x)
    have hes := enc_size r
    by_cases hr1 : r = dotT
    · rw [decide_eq_true hr1] at t1
      clear hr1 t2 HE
      go_enter Tryz.func7, Tryz.ntmps7
      go_wp2_with fail
      refine HN.out.mono ?_
      rintro e w1 ⟨rfl, b1⟩
      go_wp2_with fail
      refine (HT.out _).mono ?_
      rintro e w2 ⟨b, rfl, _, rfl⟩
      cases b
      all_goals
        go_wp2_with fail
        refine (awake_any _).mono ?_
        rintro e w2 ⟨rfl, b2⟩
        go_wp2
        go_ret
        exact ⟨rfl, b1.trans (b2.mono b1.size)⟩
    · rw [decide_eq_false hr1] at t1
      by_cases hr2 : r = dotsT
      · rw [decide_eq_true hr2] at t2
        clear hr1 hr2 HE
        go_enter Tryz.func7, Tryz.ntmps7
        go_wp2_with fail
        refine HN.out.mono ?_
        rintro e w1 ⟨rfl, b1⟩
        go_wp2_with fail
        refine (HT.out _).mono ?_
        rintro e w2 ⟨b, rfl, _, rfl⟩
        cases b
        all_goals
          go_wp2_with fail
          refine (awake_any _).mono ?_
          rintro e w2 ⟨rfl, b2⟩
          go_wp2
          go_ret
          exact ⟨rfl, b1.trans (b2.mono b1.size)⟩
      · rw [decide_eq_false hr2] at t2
        have HD := Lib.hid (show isDots r = false by unfold isDots; rw [decide_eq_false hr1, decide_eq_false hr2]; rfl)
        clear hr1 hr2
        have t3 := eq_str (enc r) r
        by_cases hen : enc r = r
        · rw [decide_eq_true hen] at t3
          have HEN := Lib.hid hen
          clear hen
          go_enter Tryz.func7, Tryz.ntmps7
          go_wp2_with fail
          refine HN.out.mono ?_
          rintro e w1 ⟨rfl, b1⟩
          go_wp2_with fail
          refine (HT.out _).mono ?_
          rintro e w2 ⟨b, rfl, htk, rfl⟩
          have HTK := Lib.hid htk
          clear htk
          cases b
          · go_wp2_with fail
            refine (awake_any _).mono ?_
            rintro e w2 ⟨rfl, b2⟩
            go_wp2
            go_ret
            exact ⟨rfl, b1.trans (b2.mono b1.size)⟩
          · obtain ⟨D, e1, e2, e3⟩ := HST.out (HTK.out rfl) HD.out HEN.out
            have H1 := Lib.hid (fun w hg => HRA.out dotT (by decide) w hg)
            have H2 := Lib.hid (fun w hg => HRA.out (r ++ upT) (by rw [add_size, show upT.size = 3 from rfl]; omega) w hg)
            have H3 := Lib.hid (fun w hg => HRA.out r (by omega) w hg)
            have hD : D.size ≤ 1048600 := by
              have := hrs.out dotT
              rw [e1, show dotT.size = 1 from rfl] at this
              simp only at this
              omega
            unfold resVal at H1 H2 H3
            rw [e1] at H1
            rw [e2] at H2
            rw [e3] at H3
            unfold dotT at H1
            unfold upT at H2
            dsimp only at H1 H2 H3
            have hg1 := hg.beyond b1
            clear e1 e2 e3 HRA hrs HST HTK HD
            go_wp2_with fail
            refine (HE.out _).mono ?_
            rintro e w2 ⟨rfl, b2⟩
            have hg2 := hg1.beyond b2
            have hb2 := b1.trans (b2.mono b1.size)
            clear b1 b2
            go_wp2_with fail
            refine (H1.out _ hg2).mono ?_
            rintro e w3 ⟨rfl, b3⟩
            have hg3 := hg2.beyond b3
            have hb3 := hb2.trans (b3.mono hb2.size)
            clear hb2 b3
            go_wp2_with fail
            refine (H2.out _ hg3).mono ?_
            rintro e w4 ⟨rfl, b4⟩
            have hg4 := hg3.beyond b4
            have hb4 := hb3.trans (b4.mono hb3.size)
            clear hb3 b4
            go_wp2_with fail
            refine (H3.out _ hg4).mono ?_
            rintro e w5 ⟨rfl, b5⟩
            have hb5 := hb4.trans (b5.mono hb4.size)
            clear hb4 b5
            go_wp2_with fail
            refine (awake_any _).mono ?_
            rintro e w6 ⟨rfl, b6⟩
            have hb6 := hb5.trans (b6.mono hb5.size)
            clear hb5 b6
            go_wp2
            go_ret
            exact ⟨rfl, hb6⟩
        · rw [decide_eq_false hen] at t3
          clear hen
          go_enter Tryz.func7, Tryz.ntmps7
          go_wp2_with fail
          refine HN.out.mono ?_
          rintro e w1 ⟨rfl, b1⟩
          go_wp2_with fail
          refine (HT.out _).mono ?_
          rintro e w2 ⟨b, rfl, _, rfl⟩
          cases b
          · go_wp2_with fail
            refine (awake_any _).mono ?_
            rintro e w2 ⟨rfl, b2⟩
            go_wp2
            go_ret
            exact ⟨rfl, b1.trans (b2.mono b1.size)⟩
          · go_wp2_with fail
            refine (HE.out _).mono ?_
            rintro e w2 ⟨rfl, b2⟩
            have hb2 := b1.trans (b2.mono b1.size)
            clear b1 b2
            go_wp2_with fail
            refine (awake_any _).mono ?_
            rintro e w3 ⟨rfl, b3⟩
            have hb3 := hb2.trans (b3.mono hb2.size)
            clear hb2 b3
            go_wp2
            go_ret
            exact ⟨rfl, hb3⟩
end Go.Proofs.YtjlnbjlhlglneaaGreatDoor
