/-
  The walk of TargetDots.
-/
import Derived.Test.YtjlnbjlhlglneaaGreatDoorTgTk
import Derived.Test.YtjlnbjlhlglneaaGreatDoorTgAw
import Derived.Test.YtjlnbjlhlglneaaGreatDoorTgSr
namespace Go.Proofs.YtjlnbjlhlglneaaGreatDoor
open Go.RowKit Go.Shelf Go.Lib

theorem Segments_all (s : ByteArray) (w : World) (hs : s.size ≤ 4194304) (hg : Glob w) :
    Calls Tryz.prog 18 #[.string s] w (GivesSegs w (segR s)) := by
  cases hp : isPathB s
  · exact Segments_no s w hs hp
  · exact Segments_yes s w hs hg hp
theorem segs_len (s : ByteArray) : (segR s).1.length ≤ s.size + 1 := by
  unfold segR
  split
  · show ((splitC (behind1 s) 47).map _).length ≤ _
    rw [List.length_map]
    have h1 := splitC_len (behind1 s) 47
    have h2 : (behind1 s).size ≤ s.size := by unfold behind1; rw [ByteArray.size_extract]; omega
    omega
  · exact Nat.zero_le _
theorem not_dots {x : ByteArray} (h : isDots x = false) : (x.toList == [46]) = false ∧ (x.toList == [46, 46]) = false := by
  simp only [isDots, Bool.or_eq_false_iff, decide_eq_false_iff_not] at h
  rw [dot_test, dots_test, decide_eq_false h.1, decide_eq_false h.2]
  exact ⟨rfl, rfl⟩
set_option maxRecDepth 100000 in
set_option maxHeartbeats 8000000 in
theorem TargetDots_walk (s : ByteArray) (at_ : Int) (w : World) (_hs : s.size ≤ maxLen) (ha : -9223372036854775808 ≤ at_ ∧ at_ ≤ 9223372036854775807) (hk : s.size + 0 ≤ 1048576) (hg : Glob w) :
    Calls Tryz.prog 9 #[.string s, .int .i64 at_] w fun e w' => e = .returned (.bool true) ∧ Below w.heap.size w w' := by
  have HN := Lib.hid (Normal_any s w (by omega) hg)
  cases hp : isPathB s
  · have HR := Lib.hid (fun w => rNormal_any s w (by omega))
    unfold normVal at HN HR
    rw [normR_bad hp] at HN HR
    clear hp
    go_enter Tryz.func9, Tryz.ntmps9
    go_wp2_with fail
    refine HN.out.mono ?_
    rintro e w1 ⟨rfl, b1⟩
    go_wp2_with fail
    refine (HR.out _).mono ?_
    rintro e w2 ⟨rfl, b2⟩
    have hb2 := b1.trans (b2.mono b1.size)
    clear b1 b2
    go_wp2_with fail
    refine (awake_any _).mono ?_
    rintro e w3 ⟨rfl, b3⟩
    go_wp2
    go_ret
    exact ⟨rfl, hb2.trans (b3.mono hb2.size)⟩
  · have hns := norm_size s
    have hsame := norm_same hp
    have hsd := seg_dots hp
    have hr := normSegs_right hp
    have hne := normSegs_ne s
    have hg0 : pathOf (normSegs s) = (normR s).1 := by rw [normR_segs hp]
    have h0e : (normR s).2 = 0 := by rw [normR_segs hp]
    have HDO := Lib.hid (fun (i : Nat) (hi : i < (normR s).1.size) (hb : bt (normR s).1 i = 47) => dots_out hg0 hne hr hi hb)
    unfold normVal at HN
    rw [h0e] at HN
    clear h0e hg0 hne hr hp
    generalize (normR s).1 = n at *
    have H1 := Lib.hid (fun w hg => Normal_any n w (by omega) hg)
    have H2 := Lib.hid (fun w hg => Segments_all n w (by omega) hg)
    have HNA := Lib.hid (fun (x : ByteArray) (hx : x.size ≤ 1048600) w hg => Normal_any x w (by omega) hg)
    have hln := segs_len n
    unfold normVal at H1
    rw [hsame] at H1
    dsimp only at H1
    generalize segR n = sg at *
    obtain ⟨l, el⟩ := sg
    dsimp only at hsd hln
    obtain ⟨rfl, hld⟩ := hsd
    have HLD := Lib.hid hld
    clear hld hsame
    go_enter Tryz.func9, Tryz.ntmps9
    go_wp2_with fail
    refine HN.out.mono ?_
    rintro e w1 ⟨rfl, b1⟩
    have hg1 := hg.beyond b1
    go_wp2_with fail
    refine (H1.out _ hg1).mono ?_
    rintro e w2 ⟨rfl, b2⟩
    have hg2 := hg1.beyond b2
    have hb2 := b1.trans (b2.mono b1.size)
    clear b1 b2
    go_wp2_with fail
    refine (H2.out _ hg2).mono ?_
    rintro e w3 ⟨A, c, rfl, ho, b3⟩
    dsimp only at ho
    dsimp only
    have hg3 := hg2.beyond b3
    have hb3 := hb2.trans (b3.mono hb2.size)
    have hrow := own_row ho
    clear hb2 b3 ho hg1 hg2
    go_wp2
    go_loop [13] (fun i => ∃ k : Nat, k ≤ l.length ∧ i = .int .i64 k) (fun i => l.length - (RowKit.intOf i).toNat)
    case atStart => exact ⟨0, by omega, rfl⟩
    case round =>
      obtain ⟨k, hkk, rfl⟩ := hrel
      by_cases hlt : k < l.length
      · obtain ⟨y, hy⟩ := some_of_lt hlt
        obtain ⟨b, off, rfl, hb, h0⟩ := hrow.str hy
        obtain ⟨t1, t2⟩ := not_dots (HLD.out y (List.mem_of_getElem? hy))
        clear hy
        go_wp2
        go_round
        case rel => exact ⟨k + 1, by omega, by go_num⟩
        case measure => simp [RowKit.intOf]; omega
      · obtain rfl : k = l.length := by omega
        by_cases hneg : at_ < 0
        · go_wp2_with fail
          refine (awake_any _).mono ?_
          rintro e w4 ⟨rfl, b4⟩
          go_wp2
          go_ret
          exact ⟨rfl, hb3.trans (b4.mono hb3.size)⟩
        · obtain ⟨i, rfl⟩ := Int.eq_ofNat_of_zero_le (show 0 ≤ at_ by omega)
          have hi0 : 0 ≤ (i : Int) := by omega
          by_cases hin : i < n.size
          · have hii : (i : Int) < (n.size : Int) := by omega
            have hb := @bt_eq n i hin
            by_cases h47 : bt n i = 47
            · have hn47 : (bt n i != 47) = false := by rw [h47]; rfl
              obtain ⟨g1, g2⟩ := HDO.out i hin h47
              have z1 := ext_size n (a := 0) (b := i) (by omega) (by omega)
              have z2 := ext_size n (a := i) (b := n.size) (by omega) (Nat.le_refl _)
              have HA := Lib.hid (fun w hg => HNA.out ((n.extract 0 i ++ ⟨#[47, 46]⟩) ++ n.extract i n.size) (by rw [add_size, add_size, z1, z2, show (⟨#[47, 46]⟩ : ByteArray).size = 2 from rfl]; omega) w hg)
              have HB := Lib.hid (fun w hg => HNA.out ((n.extract 0 i ++ ⟨#[47, 120, 47, 46, 46]⟩) ++ n.extract i n.size) (by rw [add_size, add_size, z1, z2, show (⟨#[47, 120, 47, 46, 46]⟩ : ByteArray).size = 5 from rfl]; omega) w hg)
              unfold normVal at HA HB
              rw [g1] at HA
              rw [g2] at HB
              dsimp only at HA HB
              have y1 : (n.extract 0 i).size ≤ 1048600 := by omega
              have y2 : (n.extract i n.size).size ≤ 1048600 := by omega
              have hii2 : (i : Int) ≤ (n.size : Int) := by omega
              have q1 : ¬ 9223372036854775807 < min i n.size + 2 := by omega
              have q2 : ¬ 9223372036854775807 < min i n.size + 2 + (n.size - i) := by omega
              have q3 : ¬ 9223372036854775807 < min i n.size + 5 := by omega
              have q4 : ¬ 9223372036854775807 < min i n.size + 5 + (n.size - i) := by omega
              clear g1 g2 h47 z1 z2 HDO HNA
              go_wp2_with fail
              go_region_held3 (fun _ => True) (trivial) ((go_at_call 26; (with_reducible refine (HA.out _ (hg3.beyond (below_drew (Below.refl _ _)))).mono ?_); rintro e w4 ⟨rfl, b4⟩))
              have hg4 : Glob w4 := (hg3.beyond (below_drew (Below.refl _ _))).beyond b4
              have hb4 : Below w.heap.size w w4 := (below_drew hb3).trans (b4.mono hb3.size)
              clear b4 hb3
              go_wp2_with fail
              go_region_held3 (fun _ => True) (trivial) ((go_at_call 26; (with_reducible refine (HB.out _ (hg4.beyond (below_drew (Below.refl _ _)))).mono ?_); rintro e w5 ⟨rfl, b5⟩))
              have hb5 : Below w.heap.size w w5 := (below_drew hb4).trans (b5.mono hb4.size)
              clear b5 hb4
              go_wp2_with fail
              refine (awake_any _).mono ?_
              rintro e w6 ⟨rfl, b6⟩
              have hb6 := hb5.trans (b6.mono hb5.size)
              clear b6 hb5
              go_wp2
              go_ret
              exact ⟨rfl, hb6⟩
            · have hn47 : (bt n i != 47) = true := by simpa using h47
              clear h47
              go_wp2_with fail
              refine (awake_any _).mono ?_
              rintro e w4 ⟨rfl, b4⟩
              go_wp2
              go_ret
              exact ⟨rfl, hb3.trans (b4.mono hb3.size)⟩
          · have hii : (n.size : Int) ≤ (i : Int) := by omega
            go_wp2_with fail
            refine (awake_any _).mono ?_
            rintro e w4 ⟨rfl, b4⟩
            go_wp2
            go_ret
            exact ⟨rfl, hb3.trans (b4.mono hb3.size)⟩
end Go.Proofs.YtjlnbjlhlglneaaGreatDoor
