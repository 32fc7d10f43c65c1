/-
  Parse: the walks.
-/
import Derived.Test.YtamagbdkcfmfmaaDoorParse
import Derived.Test.YtamagbdkcfmfmaaDoorAll
namespace Go.Proofs.YtamagbdkcfmfmaaDoor
open Go.RowKit Go.Shelf Go.Lib

/-- What Parse hands back: fields in memory of its own, a place, an error. -/
def GivesParse (T : TypeId) (w : World) (r : List Fl × Int × Int) (e : Ending) (w' : World) : Prop :=
  ∃ A c, e = .returned (.tuple #[.slice A r.1.length c, .int .i64 r.2.1, .int .i64 r.2.2]) ∧ w'.ownsRow w.heap.size T 2 (.slice A r.1.length c) r.1.length (flat r.1) ∧ Below w.heap.size w w'
theorem gives_none {T : TypeId} {w w' : World} {r : List Fl × Int × Int} {p e : Int} (h : r = ([], p, e)) (hb : Below w.heap.size w w') : GivesParse T w r (.returned (.tuple #[.slice none 0 0, .int .i64 p, .int .i64 e])) w' := by
  subst h
  exact ⟨none, 0, rfl, World.ownsRow_nil _ _ _ _, hb⟩

/-- Where a line ends from a place on; -1: nowhere. -/
def endOf (s : ByteArray) (a : Nat) : Int := if endAt s a = s.size then -1 else (endAt s a : Int)
set_option maxRecDepth 20000 in
theorem rending_any (s : ByteArray) (a : Nat) (w : World) (hs : s.size ≤ 4294967280) (ha : a ≤ s.size) :
    Calls Tryd.prog 92 #[.string s, .int .i64 a] w fun e w' => e = .returned (.int .i64 (endOf s a)) ∧ w = w' := by
  go_enter Tryd.func92, Tryd.ntmps92
  go_wp2
  go_loop [5] (fun v => ∃ k : Nat, a ≤ k ∧ k ≤ s.size ∧ v = .int .i64 k ∧ ∀ j, a ≤ j → j < k → isEnd s j = false) (fun v => s.size - (RowKit.intOf v).toNat)
  case atStart => exact ⟨a, Nat.le_refl _, ha, rfl, fun j h1 h2 => by omega⟩
  case round =>
    obtain ⟨k, hak, hk, rfl, hno⟩ := hrel
    have HN := Lib.hid hno
    clear hno
    by_cases hlt : k + 1 < s.size
    · have hb0 := @bt_eq s k (by omega)
      have hb1 := @bt_eq s (k + 1) hlt
      have hlt' : (k : Int) + 1 < (s.size : Int) := by omega
      have hi : ((k : Int) + 1).toNat = k + 1 := by omega
      have hsplit : isEnd s k = ((bt s k == 13) && (bt s (k + 1) == 10)) := by
        unfold isEnd
        rw [decide_eq_true hlt, Bool.and_true]
        rfl
      have HSP := Lib.hid hsplit
      clear hsplit
      cases h13 : (bt s k == 13)
      · have HE := Lib.hid (show isEnd s k = false by rw [HSP.out, h13]; rfl)
        go_wp2
        go_round
        case rel => exact ⟨k + 1, by omega, by omega, by go_num, fun j h1 h2 => by
          by_cases e : j = k
          · rw [e]; exact HE.out
          · exact HN.out j h1 (by omega)⟩
        case measure => simp [RowKit.intOf]; omega
      · cases h10 : (bt s (k + 1) == 10)
        · have HE := Lib.hid (show isEnd s k = false by rw [HSP.out, h13, h10]; rfl)
          go_wp2
          go_round
          case rel => exact ⟨k + 1, by omega, by omega, by go_num, fun j h1 h2 => by
            by_cases e : j = k
            · rw [e]; exact HE.out
            · exact HN.out j h1 (by omega)⟩
          case measure => simp [RowKit.intOf]; omega
        · have HE := Lib.hid (show isEnd s k = true by rw [HSP.out, h13, h10]; rfl)
          go_wp2
          go_ret
          exact ⟨ret_int (by rw [endOf, endAt_eq hak HE.out HN.out, if_neg (by omega)]), rfl⟩
    · have hlt' : ¬ (k : Int) + 1 < (s.size : Int) := by omega
      have HE := Lib.hid (endAt_none ha (fun j h1 h2 => HN.out j h1 (by omega)))
      go_wp2
      go_ret
      exact ⟨ret_int (by rw [endOf, HE.out, if_pos rfl]), rfl⟩

set_option maxRecDepth 20000 in
set_option maxHeartbeats 2000000 in
theorem Parse_any (s : ByteArray) (w : World) (hs : s.size ≤ 4294967280) (hg : Glob w) :
    Calls Tryd.prog 40 #[.string s] w (GivesParse 24 w (parseAll s)) := by
  obtain ⟨i0, hi0, hz0, hz1, hz2⟩ := info_parts info_field
  have HPA := Lib.hid (show parseAll s = parseGo s s.size 0 [] from rfl)
  go_enter Tryd.func40, Tryd.ntmps40
  go_wp2
  go_loopw [5, 6] (fun v i wr => ∃ (a n : Nat) (acc : List Fl), a ≤ s.size ∧ i = .int .i64 a ∧ wr.ownsRow w.heap.size 24 2 v acc.length (flat acc) ∧ Below w.heap.size w wr ∧ acc.length ≤ 100 ∧ s.size ≤ a + n ∧ parseGo s n a acc = parseAll s) (fun _ i _ => s.size - (RowKit.intOf i).toNat)
  case atStart => exact ⟨0, s.size, [], by omega, rfl, World.ownsRow_nil _ _ _ _, Below.refl _ _, by simp, by omega, rfl⟩
  case round =>
    obtain ⟨a, n, acc, ha, rfl, hown, hbw, hacc, hn, hp⟩ := hrel
    obtain ⟨A0, c0, rfl⟩ := own_slice hown
    by_cases hlt : a < s.size
    · have hz := ext_size s ha (Nat.le_refl _)
      obtain ⟨m, hm⟩ := (hg.beyond hbw).maxl
      have hI := Tryd.strings_Index (s.extract a s.size) ⟨#[13, 10]⟩ m wr (by omega) hm
      rw [show (⟨#[13, 10]⟩ : ByteArray).data.toList = [13, 10] from rfl] at hI
      rcases index_end s ha with ⟨he, hx⟩ | ⟨q, he, hq, hx⟩
      · rw [hx] at hI
        have HP := Lib.hid (hp.symm.trans (parseGo_break hn hlt he))
        have HI := Lib.hid hI
        clear hI hx he hp hz hm
        go_wp2_with fail
        refine HI.out.mono ?_
        rintro e w' ⟨rfl, rfl⟩
        go_wp2
        go_ret3
        exact gives_none HP.out hbw
      · rw [hx] at hI
        have HI := Lib.hid hI
        have hne : ¬ endAt s a = s.size := by omega
        clear hI hx hz hm
        by_cases hmany : 100 ≤ acc.length
        · have HP := Lib.hid (hp.symm.trans (parseGo_many hn hlt hne hmany))
          clear he hp hne
          go_wp2_with fail
          refine HI.out.mono ?_
          rintro e w' ⟨rfl, rfl⟩
          go_wp2
          go_ret3
          exact gives_none HP.out hbw
        · have hsz := ext_size s (a := a) (b := a + q) (by omega) (by omega)
          have hL := fun w hg => ParseLine_any (s.extract a (a + q)) w (by unfold maxLen; omega) hg
          have hrg := parseLine_range (s.extract a (a + q))
          have hbad := parseGo_bad hn hlt hne hmany
          have hon := parseGo_on hn hlt hne hmany
          rw [he] at hbad hon
          rw [hsz] at hrg
          generalize parseLine (s.extract a (a + q)) = r at hL hrg hbad hon
          obtain ⟨x, y, pl, ec⟩ := r
          have hr1 : 0 ≤ pl := hrg.1
          have hr2 : pl ≤ q := by have : pl ≤ ((a + q - a : Nat) : Int) := hrg.2; omega
          unfold plVal at hL
          have HL := Lib.hid hL
          have HB := Lib.hid hbad
          have HO := Lib.hid hon
          have HP := Lib.hid hp
          have hg1 := hg.beyond hbw
          have hqq : a + q ≤ s.size := by omega
          clear hL hbad hon hrg hsz hp hne he
          have hm' : acc.length < 100 := by omega
          clear hmany
          go_wp2_with fail
          refine HI.out.mono ?_
          rintro e w' ⟨rfl, rfl⟩
          go_wp2_with fail
          refine (HL.out _ hg1).mono ?_
          rintro e w1 ⟨rfl, hb1⟩
          have hown1 := own_below hown hb1
          have hbw1 : Below w.heap.size w w1 := hbw.trans (hb1.mono hbw.size)
          clear hb1 hown hbw hg1 HL HI
          by_cases hec : ec = 0
          · subst hec
            have HO2 := Lib.hid (HO.out rfl)
            clear HB HO
            go_wp2_with (at_builtin; refine wpList_append_own _ rfl _ _ 33 rfl w.heap.size 24 i0 (.agg #[.string ⟨#[]⟩, .string ⟨#[]⟩]) 2 32 Tryd.underlying33 hi0 hz0 hz1 hz2 rfl (by decide) _ _ _ rfl ((hown1.alloc _).alloc _) ⟨w1.heap.size + 1, 0, none⟩ 1 1 [.string x, .string y] rfl rfl ?c0 ?c1 ?c2 ?c3 ?c4 ?c5)
            case c0 => exact cells_new2 _ x y _ (by simp)
            case c1 => exact flat_oneCell [(x, y)]
            case c2 => unfold maxLen; omega
            case c3 => omega
            case c4 => simp; have := hbw1.size; omega
            case c5 =>
              intro v' w2 hown2 hg2 _
              have hb2 : Below w.heap.size w w2 := ((hbw1.alloc hbw1.size _).alloc (by simp; have := hbw1.size; omega) _).grown hg2 (by simp; have := hbw1.size; omega) (own_lt hown1)
              clear hg2 hown1
              go_wp2
              go_roundw
              case rel => exact ⟨a + q + 2, n - 1, acc ++ [(x, y)], by omega, by go_num, by rw [flat_append, List.length_append]; exact hown2, hb2, by rw [List.length_append]; simp; omega, by omega, by rw [← HP.out, HO2.out]⟩
              case measure => simp [RowKit.intOf]; omega
          · have hbne : (ec != 0) = true := by simpa using hec
            have HB2 := Lib.hid (HP.out.symm.trans (HB.out hec))
            clear HB HO hec
            go_wp2
            go_ret3
            exact gives_none HB2.out (hbw1.alloc hbw1.size _)
    · have HP := Lib.hid (hp.symm.trans (parseGo_done hlt))
      clear hp
      go_wp2
      go_ret3
      refine ⟨A0, c0, ?_, ?_, hbw⟩
      · rw [HP.out]; rfl
      · rw [HP.out]; exact hown

set_option maxRecDepth 20000 in
set_option maxHeartbeats 2000000 in
theorem rParse_any (s : ByteArray) (w : World) (hs : s.size ≤ 4294967280) :
    Calls Tryd.prog 41 #[.string s] w (GivesParse 28 w (parseAll s)) := by
  obtain ⟨i0, hi0, hz0, hz1, hz2⟩ := info_parts info_rfield
  have HPA := Lib.hid (show parseAll s = parseGo s s.size 0 [] from rfl)
  go_enter Tryd.func41, Tryd.ntmps41
  go_wp2
  go_loopw [5, 6] (fun v i wr => ∃ (a n : Nat) (acc : List Fl), a ≤ s.size ∧ i = .int .i64 a ∧ wr.ownsRow w.heap.size 28 2 v acc.length (flat acc) ∧ Below w.heap.size w wr ∧ acc.length ≤ 100 ∧ s.size ≤ a + n ∧ parseGo s n a acc = parseAll s) (fun _ i _ => s.size - (RowKit.intOf i).toNat)
  case atStart => exact ⟨0, s.size, [], by omega, rfl, World.ownsRow_nil _ _ _ _, Below.refl _ _, by simp, by omega, rfl⟩
  case round =>
    obtain ⟨a, n, acc, ha, rfl, hown, hbw, hacc, hn, hp⟩ := hrel
    obtain ⟨A0, c0, rfl⟩ := own_slice hown
    by_cases hlt : a < s.size
    · have hI := rending_any s a wr hs ha
      rcases index_end s ha with ⟨he, _⟩ | ⟨q, he, hq, _⟩
      · rw [show endOf s a = -1 by unfold endOf; rw [if_pos he]] at hI
        have HP := Lib.hid (hp.symm.trans (parseGo_break hn hlt he))
        have HI := Lib.hid hI
        clear hI he hp
        go_wp2_with fail
        refine HI.out.mono ?_
        rintro e w' ⟨rfl, rfl⟩
        go_wp2
        go_ret3
        exact gives_none HP.out hbw
      · rw [show endOf s a = (a : Int) + (q : Int) by unfold endOf; rw [if_neg (by omega), he]; omega] at hI
        have HI := Lib.hid hI
        have hne : ¬ endAt s a = s.size := by omega
        clear hI
        by_cases hmany : 100 ≤ acc.length
        · have HP := Lib.hid (hp.symm.trans (parseGo_many hn hlt hne hmany))
          have hl100 : ((acc.length : Int) == 100) = true := by simp; omega
          clear he hp hne
          go_wp2_with fail
          refine HI.out.mono ?_
          rintro e w' ⟨rfl, rfl⟩
          go_wp2
          go_ret3
          exact gives_none HP.out hbw
        · have hl100 : ((acc.length : Int) == 100) = false := by simp; omega
          have hsz := ext_size s (a := a) (b := a + q) (by omega) (by omega)
          have hL := fun w => rParseLine_any (s.extract a (a + q)) w (by unfold maxLen; omega)
          have hrg := parseLine_range (s.extract a (a + q))
          have hbad := parseGo_bad hn hlt hne hmany
          have hon := parseGo_on hn hlt hne hmany
          rw [he] at hbad hon
          rw [hsz] at hrg
          generalize parseLine (s.extract a (a + q)) = r at hL hrg hbad hon
          obtain ⟨x, y, pl, ec⟩ := r
          have hr1 : 0 ≤ pl := hrg.1
          have hr2 : pl ≤ q := by have : pl ≤ ((a + q - a : Nat) : Int) := hrg.2; omega
          unfold plVal at hL
          have HL := Lib.hid hL
          have HB := Lib.hid hbad
          have HO := Lib.hid hon
          have HP := Lib.hid hp
          have hqq : a + q ≤ s.size := by omega
          have hti : ((a : Int) + (q : Int)).toNat = a + q := by omega
          clear hL hbad hon hrg hsz hp hne he
          have hm' : acc.length < 100 := by omega
          clear hmany
          go_wp2_with fail
          refine HI.out.mono ?_
          rintro e w' ⟨rfl, rfl⟩
          go_wp2_with fail
          refine (HL.out _).mono ?_
          rintro e w1 ⟨rfl, hb1⟩
          have hown1 := own_below hown hb1
          have hbw1 : Below w.heap.size w w1 := hbw.trans (hb1.mono hbw.size)
          clear hb1 hown hbw HL HI
          by_cases hec : ec = 0
          · subst hec
            have HO2 := Lib.hid (HO.out rfl)
            clear HB HO
            go_wp2_with (at_builtin; refine wpList_append_own _ rfl _ _ 40 rfl w.heap.size 28 i0 (.agg #[.string ⟨#[]⟩, .string ⟨#[]⟩]) 2 32 Tryd.underlying40 hi0 hz0 hz1 hz2 rfl (by decide) _ _ _ rfl ((hown1.alloc _).alloc _) ⟨w1.heap.size + 1, 0, none⟩ 1 1 [.string x, .string y] rfl rfl ?c0 ?c1 ?c2 ?c3 ?c4 ?c5)
            case c0 => exact cells_new2 _ x y _ (by simp)
            case c1 => exact flat_oneCell [(x, y)]
            case c2 => unfold maxLen; omega
            case c3 => omega
            case c4 => simp; have := hbw1.size; omega
            case c5 =>
              intro v' w2 hown2 hg2 _
              have hb2 : Below w.heap.size w w2 := ((hbw1.alloc hbw1.size _).alloc (by simp; have := hbw1.size; omega) _).grown hg2 (by simp; have := hbw1.size; omega) (own_lt hown1)
              clear hg2 hown1
              go_wp2
              go_roundw
              case rel => exact ⟨a + q + 2, n - 1, acc ++ [(x, y)], by omega, by go_num, by rw [flat_append, List.length_append]; exact hown2, hb2, by rw [List.length_append]; simp; omega, by omega, by rw [← HP.out, HO2.out]⟩
              case measure => simp [RowKit.intOf]; omega
          · have hbne : (ec != 0) = true := by simpa using hec
            have HB2 := Lib.hid (HP.out.symm.trans (HB.out hec))
            clear HB HO hec
            go_wp2
            go_ret3
            exact gives_none HB2.out (hbw1.alloc hbw1.size _)
    · have HP := Lib.hid (hp.symm.trans (parseGo_done hlt))
      clear hp
      go_wp2
      go_ret3
      refine ⟨A0, c0, ?_, ?_, hbw⟩
      · rw [HP.out]; rfl
      · rw [HP.out]; exact hown
end Go.Proofs.YtamagbdkcfmfmaaDoor
