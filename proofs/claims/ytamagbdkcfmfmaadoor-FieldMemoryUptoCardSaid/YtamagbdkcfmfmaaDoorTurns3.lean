/-
  Set: the walk of the reference's.
-/
import Derived.Test.YtamagbdkcfmfmaaDoorTurns2
namespace Go.Proofs.YtamagbdkcfmfmaaDoor
open Go.RowKit Go.Shelf Go.Lib

theorem flat_snoc2 (l : List Fl) (x y : ByteArray) : flat l ++ [Value.string x, Value.string y] = flat (l ++ [(x, y)]) := (flat_append l [(x, y)]).symm
set_option maxRecDepth 20000 in
set_option maxHeartbeats 4000000 in
theorem rSet_any (A : Option Addr) (c : Nat) (l : List Fl) (name value : ByteArray) (w : World) (hr : Row w A (flat l)) (hl : l.length < 4398046511104) (hw : Wide l) (hn : name.size ≤ maxLen) (hv : value.size ≤ maxLen) :
    Calls Tryd.prog 37 #[.slice A l.length c, .string name, .string value] w (GivesFlE 28 w (setL l name value)) := by
  obtain ⟨i0, hi0, hz0, hz1, hz2⟩ := info_parts info_rfield
  have HN := Lib.hid (rIsName_any name w hn)
  have HV := Lib.hid (rIsValue_any value w hv)
  have HL := Lib.hid (setL_ref (l := l) (name := name) (value := value))
  have HK := Lib.hid (refKept_len name value)
  cases h : isName name
  · have HC := Lib.hid (show setL l name value = ([], 60) by rw [HL.out, if_pos h])
    go_enter Tryd.func37, Tryd.ntmps37
    go_wp2_with fail
    refine HN.out.mono ?_
    rw [h]
    rintro e w' ⟨rfl, rfl⟩
    go_wp2
    go_ret2
    exact givesE_none HC.out (Below.refl _ _)
  cases h1 : isValue value
  · have HC := Lib.hid (show setL l name value = ([], 61) by rw [HL.out, if_neg (by rw [h]; simp), if_pos h1])
    go_enter Tryd.func37, Tryd.ntmps37
    go_wp2_with fail
    refine HN.out.mono ?_
    rw [h]
    rintro e w' ⟨rfl, rfl⟩
    go_wp2_with fail
    refine HV.out.mono ?_
    rw [h1]
    rintro e w' ⟨rfl, rfl⟩
    go_wp2
    go_ret2
    exact givesE_none HC.out (Below.refl _ _)
  · have HC := Lib.hid (show setL l name value = if 100 < (refOut (refKept l name value) name value).length then ([], 65) else (refOut (refKept l name value) name value, 0) by rw [HL.out, if_neg (by rw [h]; simp), if_neg (by rw [h1]; simp)])
    clear HL
    go_enter Tryd.func37, Tryd.ntmps37
    go_wp2_with fail
    refine HN.out.mono ?_
    rw [h]
    rintro e w' ⟨rfl, rfl⟩
    go_wp2_with fail
    refine HV.out.mono ?_
    rw [h1]
    rintro e w' ⟨rfl, rfl⟩
    go_wp2
    go_loopw [8, 9, 20] (fun v d i wr => ∃ k : Nat, k ≤ l.length ∧ i = .int .i64 k ∧ d = .bool (refKept (l.take k) name value).2 ∧ wr.ownsRow w.heap.size 28 2 v (refKept (l.take k) name value).1.length (flat (refKept (l.take k) name value).1) ∧ Below w.heap.size w wr) (fun _ _ i _ => l.length - (RowKit.intOf i).toNat)
    case atStart => exact ⟨0, by omega, rfl, rfl, World.ownsRow_nil _ _ _ _, Below.refl _ _⟩
    case round =>
      obtain ⟨k, hk, rfl, rfl, hown, hbw⟩ := hrel
      by_cases hlt : k < l.length
      · obtain ⟨⟨x, y⟩, hxy⟩ := some_of_lt hlt
        obtain ⟨b, off, rfl, hb, h0, h1'⟩ := (hr.below hbw).pair hxy
        have HS := Lib.hid (refKept_take name value hxy)
        have hlen : (refKept (l.take k) name value).1.length ≤ k := Nat.le_trans (HK.out _) (List.length_take_le _ _)
        have hwx := (hw.at_ hxy).1
        generalize refKept (l.take k) name value = r at hown hlen HS ⊢
        obtain ⟨out, dn⟩ := r
        replace hlen : out.length ≤ k := hlen
        replace hown : wr.ownsRow w.heap.size 28 2 _ out.length (flat out) := hown
        clear hxy
        go_wp2_with fail
        refine (rAlike_any x name _ hwx hn).mono ?_
        rintro e w1 ⟨rfl, hb1⟩
        have hb1' : Below (wr.heap.size + 1) (wr.alloc (.cells #[.string x, .string y] 28)) w1 := by simpa using hb1
        obtain ⟨⟨hc0, hc1⟩, _, hsz⟩ := box2 hb1'
        have hbw1 : Below w.heap.size w w1 := hbw.trans ((below_box hb1').mono hbw.size)
        have hown1 := own_below (hown.alloc _) hb1
        clear hb1 hb1' h0 h1' hown
        cases hp : alike x name
        · have HE := Lib.hid (show refStep name value (out, dn) (x, y) = (out ++ [(x, y)], dn) by simp [refStep, hp])
          go_wp2_with (at_builtin; refine wpList_append_own _ rfl _ _ 40 rfl w.heap.size 28 i0 (.agg #[.string ⟨#[]⟩, .string ⟨#[]⟩]) 2 32 Tryd.underlying40 hi0 hz0 hz1 hz2 rfl (by decide) _ _ _ rfl (hown1.alloc _) ⟨w1.heap.size, 0, none⟩ 1 1 [.string x, .string y] rfl rfl ?c0 ?c1 ?c2 ?c3 ?c4 ?c5)
          case c0 => exact cells_new2 _ x y _ rfl
          case c1 => exact flat_oneCell [(x, y)]
          case c2 => unfold maxLen; omega
          case c3 => omega
          case c4 => simp; have := hbw1.size; omega
          case c5 =>
            intro v' w2 hown2 hg2 _
            have hb2 : Below w.heap.size w w2 := (hbw1.alloc hbw1.size _).grown hg2 (by simp; have := hbw1.size; omega) (own_lt hown1)
            clear hg2
            rw [flat_snoc2] at hown2
            go_wp2
            go_roundw
            case rel => exact ⟨k + 1, by omega, by go_num, by rw [HS.out, HE.out], by rw [HS.out, HE.out, List.length_append]; exact hown2, hb2⟩
            case measure => simp [RowKit.intOf]; omega
        · cases dn
          · have HE := Lib.hid (show refStep name value (out, false) (x, y) = (out ++ [(name, value)], true) by simp [refStep, hp])
            go_wp2_with (at_builtin; refine wpList_append_own _ rfl _ _ 40 rfl w.heap.size 28 i0 (.agg #[.string ⟨#[]⟩, .string ⟨#[]⟩]) 2 32 Tryd.underlying40 hi0 hz0 hz1 hz2 rfl (by decide) _ _ _ rfl (hown1.alloc _) ⟨w1.heap.size, 0, none⟩ 1 1 [.string name, .string value] rfl rfl ?c0 ?c1 ?c2 ?c3 ?c4 ?c5)
            case c0 => exact cells_new2 _ name value _ rfl
            case c1 => exact flat_oneCell [(name, value)]
            case c2 => unfold maxLen; omega
            case c3 => omega
            case c4 => simp; have := hbw1.size; omega
            case c5 =>
              intro v' w2 hown2 hg2 _
              have hb2 : Below w.heap.size w w2 := (hbw1.alloc hbw1.size _).grown hg2 (by simp; have := hbw1.size; omega) (own_lt hown1)
              clear hg2
              rw [flat_snoc2] at hown2
              go_wp2
              go_roundw
              case rel => exact ⟨k + 1, by omega, by go_num, by rw [HS.out, HE.out], by rw [HS.out, HE.out, List.length_append]; exact hown2, hb2⟩
              case measure => simp [RowKit.intOf]; omega
          · have HE := Lib.hid (show refStep name value (out, true) (x, y) = (out, true) by simp [refStep, hp])
            go_wp2
            go_roundw
            case rel => exact ⟨k + 1, by omega, by go_num, by rw [HS.out, HE.out], by rw [HS.out, HE.out]; exact hown1, hbw1⟩
            case measure => simp [RowKit.intOf]; omega
      · obtain rfl : k = l.length := by omega
        rw [List.take_length] at hown ⊢
        have hlen : (refKept l name value).1.length ≤ l.length := HK.out l
        generalize refKept l name value = r at hown hlen HC ⊢
        obtain ⟨out, dn⟩ := r
        replace hlen : out.length ≤ l.length := hlen
        replace hown : wr.ownsRow w.heap.size 28 2 _ out.length (flat out) := hown
        cases dn
        · replace HC := Lib.hid (show setL l name value = if 100 < out.length + 1 then ([], 65) else (out ++ [(name, value)], 0) by rw [HC.out]; simp [refOut])
          go_wp2_with (at_builtin; refine wpList_append_own _ rfl _ _ 40 rfl w.heap.size 28 i0 (.agg #[.string ⟨#[]⟩, .string ⟨#[]⟩]) 2 32 Tryd.underlying40 hi0 hz0 hz1 hz2 rfl (by decide) _ _ _ rfl (hown.alloc _) ⟨wr.heap.size, 0, none⟩ 1 1 [.string name, .string value] rfl rfl ?c0 ?c1 ?c2 ?c3 ?c4 ?c5)
          case c0 => exact cells_new2 _ name value _ rfl
          case c1 => exact flat_oneCell [(name, value)]
          case c2 => unfold maxLen; omega
          case c3 => omega
          case c4 => simp; have := hbw.size; omega
          case c5 =>
            intro v' w2 hown2 hg2 _
            have hb2 : Below w.heap.size w w2 := (hbw.alloc hbw.size _).grown hg2 (by simp; have := hbw.size; omega) (own_lt hown)
            clear hg2
            rw [flat_snoc2] at hown2
            obtain ⟨A3, c3, rfl⟩ := own_slice hown2
            by_cases hm : 100 < out.length + 1
            · have ht : decide (((out.length + 1 : Nat) : Int) > 100) = true := decide_eq_true (by omega)
              have HC2 := Lib.hid (show setL l name value = ([], 65) by rw [HC.out, if_pos hm])
              go_wp2
              go_ret2
              exact givesE_none HC2.out hb2
            · have ht : decide (((out.length + 1 : Nat) : Int) > 100) = false := decide_eq_false (by omega)
              have HC2 := Lib.hid (show setL l name value = (out ++ [(name, value)], 0) by rw [HC.out, if_neg hm])
              go_wp2
              go_ret2
              refine ⟨A3, c3, ?_, ?_, hb2⟩
              · rw [HC2.out]; simp only [List.length_append, List.length_cons, List.length_nil]; rfl
              · rw [HC2.out]; simp only [List.length_append, List.length_cons, List.length_nil]; exact hown2
        · replace HC := Lib.hid (show setL l name value = if 100 < out.length then ([], 65) else (out, 0) by rw [HC.out]; simp [refOut])
          obtain ⟨A3, c3, rfl⟩ := own_slice hown
          by_cases hm : 100 < out.length
          · have ht : decide ((out.length : Int) > 100) = true := decide_eq_true (by omega)
            have HC2 := Lib.hid (show setL l name value = ([], 65) by rw [HC.out, if_pos hm])
            go_wp2
            go_ret2
            exact givesE_none HC2.out hbw
          · have ht : decide ((out.length : Int) > 100) = false := decide_eq_false (by omega)
            have HC2 := Lib.hid (show setL l name value = (out, 0) by rw [HC.out, if_neg hm])
            go_wp2
            go_ret2
            refine ⟨A3, c3, ?_, ?_, hbw⟩
            · rw [HC2.out]; rfl
            · rw [HC2.out]; exact hown
end Go.Proofs.YtamagbdkcfmfmaaDoor
