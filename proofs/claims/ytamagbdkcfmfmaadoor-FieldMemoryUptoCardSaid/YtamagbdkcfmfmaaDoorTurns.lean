/-
  Add, Remove, Set: the walks of the reference's.
-/
import Derived.Test.YtamagbdkcfmfmaaDoorSet
namespace Go.Proofs.YtamagbdkcfmfmaaDoor
open Go.RowKit Go.Shelf Go.Lib

theorem addL_name {l : List Fl} {name value : ByteArray} (h : isName name = false) : addL l name value = ([], 60) := by
  have e : wrongC name value ((l.length : Int) + 1) = 60 := by unfold wrongC; rw [if_pos h]
  unfold addL; rw [e, if_neg (by decide)]
theorem addL_value {l : List Fl} {name value : ByteArray} (h : isName name = true) (h1 : isValue value = false) : addL l name value = ([], 61) := by
  have e : wrongC name value ((l.length : Int) + 1) = 61 := by unfold wrongC; rw [if_neg (by rw [h]; simp), if_pos h1]
  unfold addL; rw [e, if_neg (by decide)]
theorem addL_many {l : List Fl} {name value : ByteArray} (h : isName name = true) (h1 : isValue value = true) (h2 : 100 ≤ l.length) : addL l name value = ([], 65) := by
  have e : wrongC name value ((l.length : Int) + 1) = 65 := by unfold wrongC; rw [if_neg (by rw [h]; simp), if_neg (by rw [h1]; simp), if_pos (by omega)]
  unfold addL; rw [e, if_neg (by decide)]
theorem addL_good {l : List Fl} {name value : ByteArray} (h : isName name = true) (h1 : isValue value = true) (h2 : ¬ 100 ≤ l.length) : addL l name value = (l ++ [(name, value)], 0) := by
  have e : wrongC name value ((l.length : Int) + 1) = 0 := by unfold wrongC; rw [if_neg (by rw [h]; simp), if_neg (by rw [h1]; simp), if_neg (by omega)]
  unfold addL; rw [e, if_pos rfl]

set_option maxRecDepth 20000 in
set_option maxHeartbeats 2000000 in
theorem rAdd_any (A : Option Addr) (c : Nat) (l : List Fl) (name value : ByteArray) (w : World) (hr : Row w A (flat l)) (hl : l.length < 4398046511104) (hn : name.size ≤ maxLen) (hv : value.size ≤ maxLen) :
    Calls Tryd.prog 34 #[.slice A l.length c, .string name, .string value] w (GivesFlE 28 w (addL l name value)) := by
  obtain ⟨i0, hi0, hz0, hz1, hz2⟩ := info_parts info_rfield
  have HN := Lib.hid (rIsName_any name w hn)
  have HV := Lib.hid (fun w => rIsValue_any value w hv)
  cases h : isName name
  · have HC := Lib.hid (addL_name (l := l) (value := value) h)
    go_enter Tryd.func34, Tryd.ntmps34
    go_wp2_with fail
    refine HN.out.mono ?_
    rw [h]
    rintro e w' ⟨rfl, rfl⟩
    go_wp2
    go_ret2
    exact givesE_none HC.out (Below.refl _ _)
  · cases h1 : isValue value
    · have HC := Lib.hid (addL_value (l := l) h h1)
      go_enter Tryd.func34, Tryd.ntmps34
      go_wp2_with fail
      refine HN.out.mono ?_
      rw [h]
      rintro e w1 ⟨rfl, rfl⟩
      go_wp2_with fail
      refine (HV.out w).mono ?_
      rw [h1]
      rintro e w2 ⟨rfl, rfl⟩
      have hbw : Below w.heap.size w w := Below.refl _ _
      go_wp2
      go_ret2
      exact givesE_none HC.out hbw
    · by_cases h2 : 100 ≤ l.length
      · have HC := Lib.hid (addL_many h h1 h2)
        have ht : decide ((l.length : Int) ≥ 100) = true := decide_eq_true (by omega)
        go_enter Tryd.func34, Tryd.ntmps34
        go_wp2_with fail
        refine HN.out.mono ?_
        rw [h]
        rintro e w1 ⟨rfl, rfl⟩
        go_wp2_with fail
        refine (HV.out w).mono ?_
        rw [h1]
        rintro e w2 ⟨rfl, rfl⟩
        have hbw : Below w.heap.size w w := Below.refl _ _
        go_wp2
        go_ret2
        exact givesE_none HC.out hbw
      · have HC := Lib.hid (addL_good h h1 h2)
        go_enter Tryd.func34, Tryd.ntmps34
        go_wp2_with fail
        refine HN.out.mono ?_
        rw [h]
        rintro e w1 ⟨rfl, rfl⟩
        go_wp2_with fail
        refine (HV.out w).mono ?_
        rw [h1]
        rintro e w2 ⟨rfl, rfl⟩
        have hbw : Below w.heap.size w w := Below.refl _ _
        have hr2 := hr.below hbw
        go_wp2_with (at_builtin; refine wpList_append_any _ rfl (.tmp 17) (.tmp 18) 40 rfl w.heap.size 28 i0 (.agg #[.string ⟨#[]⟩, .string ⟨#[]⟩]) 2 32 Tryd.underlying40 hi0 hz0 hz1 hz2 rfl (by decide) _ 0 [] rfl (World.ownsRow_lit w #[] 0 (Nat.le_refl _) (by unfold maxLen; omega) rfl) _ A l.length c (flat l) rfl (reads_of_row (hr2.alloc _) (flat_length l) (by decide)) ?c1 ?c2 ?c3 ?c4 ?c5)
        case c1 => exact flat_oneCell l
        case c2 => unfold maxLen; omega
        case c3 => omega
        case c4 => simp
        case c5 =>
          intro v' w3 hown hg hat
          have hb3 : Below w.heap.size w w3 := ((Below.refl _ w).alloc (Nat.le_refl _) _).grown hg (by simp) (fun k hk => by simp [Value.ownBlock] at hk; omega)
          have hown' : w3.ownsRow w.heap.size 28 2 v' l.length (flat l) := by simpa using hown.mono hbw.size
          have hbw3 := hbw.trans (hb3.mono hbw.size)
          clear hg hat hown hb3
          go_wp2_with (at_builtin; refine wpList_append_own _ rfl _ _ 40 rfl w.heap.size 28 i0 (.agg #[.string ⟨#[]⟩, .string ⟨#[]⟩]) 2 32 Tryd.underlying40 hi0 hz0 hz1 hz2 rfl (by decide) _ _ _ rfl (hown'.alloc _) ⟨w3.heap.size, 0, none⟩ 1 1 [.string name, .string value] rfl rfl ?d0 ?d1 ?d2 ?d3 ?d4 ?d5)
          case d0 => exact cells_new2 _ name value _ rfl
          case d1 => exact flat_oneCell [(name, value)]
          case d2 => unfold maxLen; omega
          case d3 => omega
          case d4 => simp; have := hbw3.size; omega
          case d5 =>
            intro v' w4 hown4 hg4 _
            have hb4 : Below w.heap.size w w4 := (hbw3.alloc hbw3.size _).grown hg4 (by simp; have := hbw3.size; omega) (own_lt hown')
            clear hg4 hown'
            obtain ⟨A3, c3, rfl⟩ := own_slice hown4
            have e : flat l ++ [Value.string name, Value.string value] = flat (l ++ [(name, value)]) := (flat_append l [(name, value)]).symm
            rw [e] at hown4
            go_wp2
            go_ret2
            refine ⟨A3, c3, ?_, ?_, hb4⟩
            · rw [HC.out]; simp only [List.length_append, List.length_cons, List.length_nil]; rfl
            · rw [HC.out]; simp only [List.length_append, List.length_cons, List.length_nil]; exact hown4

set_option maxRecDepth 20000 in
set_option maxHeartbeats 2000000 in
theorem rRemove_any (A : Option Addr) (c : Nat) (l : List Fl) (name : ByteArray) (w : World) (hr : Row w A (flat l)) (hl : l.length ≤ 4398046511104) (hw : Wide l) (hn : name.size ≤ maxLen) :
    Calls Tryd.prog 39 #[.slice A l.length c, .string name] w (GivesFl 28 w (removeL l name)) := by
  obtain ⟨i0, hi0, hz0, hz1, hz2⟩ := info_parts info_rfield
  go_enter Tryd.func39, Tryd.ntmps39
  go_wp2
  go_loopw [5, 10] (fun v i wr => ∃ k : Nat, k ≤ l.length ∧ i = .int .i64 k ∧ wr.ownsRow w.heap.size 28 2 v ((l.take k).filter fun p => !alike p.1 name).length (flat ((l.take k).filter fun p => !alike p.1 name)) ∧ Below w.heap.size w wr) (fun _ i _ => l.length - (RowKit.intOf i).toNat)
  case atStart => exact ⟨0, by omega, rfl, World.ownsRow_nil _ _ _ _, Below.refl _ _⟩
  case round =>
    obtain ⟨k, hk, rfl, hown, hbw⟩ := hrel
    by_cases hlt : k < l.length
    · obtain ⟨⟨x, y⟩, hxy⟩ := some_of_lt hlt
      obtain ⟨b, off, rfl, hb, h0, h1⟩ := (hr.below hbw).pair hxy
      have HS := Lib.hid (filter_take (fun p => !alike p.1 name) hxy)
      have hlen : ((l.take k).filter fun p => !alike p.1 name).length ≤ k := Nat.le_trans (List.length_filter_le _ _) (List.length_take_le _ _)
      have hwx := (hw.at_ hxy).1
      generalize ((l.take k).filter fun p => !alike p.1 name) = out at hown hlen HS
      clear hxy
      go_wp2_with fail
      refine (rAlike_any x name _ hwx hn).mono ?_
      rintro e w1 ⟨rfl, hb1⟩
      have hb1' : Below (wr.heap.size + 1) (wr.alloc (.cells #[.string x, .string y] 28)) w1 := by simpa using hb1
      obtain ⟨⟨hc0, hc1⟩, _, hsz⟩ := box2 hb1'
      have hbw1 : Below w.heap.size w w1 := hbw.trans ((below_box hb1').mono hbw.size)
      have hown1 := own_below (hown.alloc _) hb1
      clear hb1 hb1' h0 h1 hown
      cases hp : alike x name
      · have HE := Lib.hid (show (!alike (x, y).1 name) = true by simp [hp])
        go_wp2_with (at_builtin; refine wpList_append_own _ rfl _ _ 40 rfl w.heap.size 28 i0 (.agg #[.string ⟨#[]⟩, .string ⟨#[]⟩]) 2 32 Tryd.underlying40 hi0 hz0 hz1 hz2 rfl (by decide) _ _ _ rfl (hown1.alloc _) ⟨w1.heap.size, 0, none⟩ 1 1 [.string x, .string y] rfl rfl ?c0 ?c1 ?c2 ?c3 ?c4 ?c5)
        case c0 => exact cells_new2 _ x y _ rfl
        case c1 => exact flat_oneCell [(x, y)]
        case c2 => unfold maxLen; omega
        case c3 => omega
        case c4 => simp; have := hbw1.size; omega
        case c5 =>
          intro v' w2 hown2 hg2 _
          go_wp2
          go_roundw
          case rel => exact ⟨k + 1, by omega, by go_num, by rw [HS.out, if_pos HE.out, flat_append, List.length_append]; exact hown2, (hbw1.alloc hbw1.size _).grown hg2 (by simp; have := hbw1.size; omega) (own_lt hown1)⟩
          case measure => simp [RowKit.intOf]; omega
      · have HE := Lib.hid (show ¬ (!alike (x, y).1 name) = true by simp [hp])
        go_wp2
        go_roundw
        case rel => exact ⟨k + 1, by omega, by go_num, by rw [HS.out, if_neg HE.out]; exact hown1, hbw1⟩
        case measure => simp [RowKit.intOf]; omega
    · obtain rfl : k = l.length := by omega
      rw [List.take_length] at hown
      obtain ⟨A', c', rfl⟩ := own_slice hown
      go_wp2
      go_ret
      exact ⟨A', c', by unfold removeL; rfl, by unfold removeL; exact hown, hbw⟩
end Go.Proofs.YtamagbdkcfmfmaaDoor
