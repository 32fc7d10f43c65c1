/-
  The walk of FieldBack.
-/
import Derived.Test.YtamagbdkcfmfmaaDoorBack
import Derived.Test.YtamagbdkcfmfmaaDoorParseW
import Derived.Test.YtamagbdkcfmfmaaDoorLawTurns
namespace Go.Proofs.YtamagbdkcfmfmaaDoor
open Go.RowKit Go.Shelf Go.Lib

theorem printAll_size (l : List Fl) : (printAll l).1.size ≤ 832400 := by
  unfold printAll
  split
  · exact Nat.zero_le _
  · have := printGo_len l []
    rw [← size_eq]
    simp only [List.length_nil] at this
    simp only
    omega
set_option maxRecDepth 20000 in
set_option maxHeartbeats 2000000 in
theorem FieldBack_walk (A : Option Addr) (c : Nat) (l : List Fl) (w : World) (hr : Row w A (flat l)) (hl : l.length ≤ 4398046511102) (hw : Wide l) (hg : Glob w) :
    Calls Tryd.prog 11 #[.slice A l.length c] w fun e w' => e = .returned (.bool true) ∧ Below w.heap.size w w' := by
  rcases Nat.lt_or_ge 100 l.length with hlong | hlong
  · go_enter Tryd.func11, Tryd.ntmps11
    go_wp2_with fail
    refine (awake_any w hg).mono ?_
    rintro e w1 ⟨rfl, hb1⟩
    go_wp2
    go_ret
    exact ⟨rfl, hb1⟩
  · have hd : decide ((100 : Int) < (l.length : Int)) = false := by simp; omega
    go_enter Tryd.func11, Tryd.ntmps11
    go_wp2_with fail
    refine (awake_any w hg).mono ?_
    rintro e w1 ⟨rfl, hb1⟩
    have hr1 := hr.below hb1
    have hg1 := hg.beyond hb1
    go_wp2
    go_loopw [16] (fun i wr => ∃ k : Nat, k ≤ l.length ∧ i = .int .i64 k ∧ Below w1.heap.size w1 wr ∧ Right (l.take k)) (fun i _ => l.length - (RowKit.intOf i).toNat)
    case atStart => exact ⟨0, by omega, rfl, Below.refl _ _, fun p hp => by simp at hp⟩
    case round =>
      obtain ⟨k, hk, rfl, hbw, hR⟩ := hrel
      by_cases hlt : k < l.length
      · obtain ⟨⟨x, y⟩, hxy⟩ := some_of_lt hlt
        obtain ⟨b, off, rfl, hb, h0, h1⟩ := (hr1.below hbw).pair hxy
        obtain ⟨hwx, hwy⟩ := hw.at_ hxy
        have HL := Lib.hid (fun w => rIsName_any x w hwx)
        have HR := Lib.hid (fun w => rIsValue_any y w hwy)
        have HT := Lib.hid (take_snoc hxy)
        have HRR := Lib.hid hR
        clear hxy hR
        have hbx := hbw.alloc hbw.size (.cells #[.string x, .string y] 24)
        cases hx : isName x
        · go_wp2_with fail
          refine (HL.out _).mono ?_
          rw [hx]
          rintro e w2 ⟨rfl, rfl⟩
          go_wp2
          go_ret
          exact ⟨rfl, hb1.trans (hbx.mono hb1.size)⟩
        · cases hy : isValue y
          · go_wp2_with fail
            refine (HL.out _).mono ?_
            rw [hx]
            rintro e w2 ⟨rfl, rfl⟩
            go_wp2_with fail
            refine (HR.out _).mono ?_
            rw [hy]
            rintro e w2 ⟨rfl, rfl⟩
            go_wp2
            go_ret
            exact ⟨rfl, hb1.trans (hbx.mono hb1.size)⟩
          · go_wp2_with fail
            refine (HL.out _).mono ?_
            rw [hx]
            rintro e w2 ⟨rfl, rfl⟩
            go_wp2_with fail
            refine (HR.out _).mono ?_
            rw [hy]
            rintro e w2 ⟨rfl, rfl⟩
            go_wp2
            go_roundw
            case rel => exact ⟨k + 1, by omega, by go_num, hbx, fun p hp => by
              rw [HT.out, List.mem_append] at hp
              rcases hp with hp | hp
              · exact HRR.out p hp
              · simp at hp; subst hp; exact ⟨hx, hy⟩⟩
            case measure => simp [RowKit.intOf]; omega
      · obtain rfl : k = l.length := by omega
        rw [List.take_length] at hR
        obtain ⟨hp1, hp2⟩ := parse_printed hR (by omega)
        have hsz := printAll_size l
        have HP := Lib.hid (fun A c w hr hg => Print_any A c l w hr (by omega) hw hg)
        have hr2 := hr1.below hbw
        have hg2 := hg1.beyond hbw
        have hbw2 := hb1.trans (hbw.mono hb1.size)
        generalize printAll l = r at HP hp1 hp2 hsz
        obtain ⟨s, ec⟩ := r
        obtain rfl : ec = 0 := hp1
        have HQ := Lib.hid (show parseAll s = (l, 0, 0) from hp2)
        have hss : s.size ≤ 832400 := hsz
        clear hp2 hsz hr1 hg1 hbw hb1 hR
        go_wp2_with fail
        refine (wide_any A c l wr hr2 (by omega)).mono ?_
        rintro e w3 ⟨A3, c3, rfl, hown3, hb3⟩
        have hp3 := own_row hown3
        have hr3 := hr2.below hb3
        have hg3 := hg2.beyond hb3
        have hbw3 := hbw2.trans (hb3.mono hbw2.size)
        clear hr2 hg2 hb3 hbw2 hown3
        go_wp2_with fail
        refine (HP.out A3 c3 w3 hp3 hg3).mono ?_
        rintro e w4 ⟨rfl, hb4⟩
        have hr4 := hr3.below hb4
        have hg4 := hg3.beyond hb4
        have hbw4 := hbw3.trans (hb4.mono hbw3.size)
        clear hr3 hg3 hb4 hbw3 hp3 HP
        have HPA := Lib.hid (Parse_any s w4 (by omega) hg4)
        rw [HQ.out] at HPA
        go_wp2_with fail
        refine HPA.out.mono ?_
        rintro e w5 ⟨A5, c5, rfl, hown5, hb5⟩
        have hp5 : Row w5 A5 (flat l) := own_row hown5
        have hr5 := hr4.below hb5
        have hbw5 := hbw4.trans (hb5.mono hbw4.size)
        clear hr4 hg4 hb5 hbw4 HPA hown5
        go_wp2_with fail
        refine (plain_any A c l w5 hr5 (by omega)).mono ?_
        rintro e w6 ⟨A6, c6, rfl, hown6, hb6⟩
        have hq6 := own_row hown6
        have hp6 := hp5.below hb6
        have hbw6 := hbw5.trans (hb6.mono hbw5.size)
        clear hb6 hbw5 hown6 hp5
        go_wp2_with fail
        refine (sames_any c5 c6 l w6 hp6 hq6 (by omega)).mono ?_
        rintro e w7 ⟨rfl, hb7⟩
        go_wp2
        go_ret
        exact ⟨rfl, hbw6.trans (hb7.mono hbw6.size)⟩
end Go.Proofs.YtamagbdkcfmfmaaDoor
