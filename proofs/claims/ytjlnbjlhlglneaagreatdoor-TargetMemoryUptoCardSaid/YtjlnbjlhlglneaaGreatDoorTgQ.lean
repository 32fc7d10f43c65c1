/-
  The pairs of a query: the walks, of the program and of the reference.
-/
import Derived.Test.YtjlnbjlhlglneaaGreatDoorTgF3
import Derived.Test.YtjlnbjlhlglneaaGreatDoorTgSpw
import Derived.Test.YtjlnbjlhlglneaaGreatDoorTgRs
import Derived.Test.YtjlnbjlhlglneaaGreatDoorTgBh
namespace Go.Proofs.YtjlnbjlhlglneaaGreatDoor
open Go.RowKit Go.Shelf Go.Lib

theorem pairsL_skip {l : List ByteArray} {k : Nat} {p : ByteArray} (h : l[k]? = some p) (hz : p.size = 0) : pairsL (l.take (k + 1)) = pairsL (l.take k) := by
  rw [take_snoc h]
  unfold pairsL
  rw [List.filter_append, List.map_append]
  have : [p].filter (fun p => !decide (p.size = 0)) = [] := List.filter_cons_of_neg (by rw [decide_eq_true hz]; simp)
  rw [this]
  simp
theorem pairsL_take {l : List ByteArray} {k : Nat} {p : ByteArray} (h : l[k]? = some p) (hz : ¬ p.size = 0) : pairsL (l.take (k + 1)) = pairsL (l.take k) ++ [pairOf p] := by
  rw [take_snoc h]
  unfold pairsL
  rw [List.filter_append, List.map_append]
  have : [p].filter (fun p => !decide (p.size = 0)) = [p] := List.filter_cons_of_pos (by rw [decide_eq_false hz]; simp)
  rw [this]
  simp
theorem pairsL_length (l : List ByteArray) : (pairsL l).length ≤ l.length := by
  unfold pairsL
  rw [List.length_map]
  exact List.length_filter_le _ _
theorem pairsL_at (l : List ByteArray) (k : Nat) : (pairsL (l.take k)).length ≤ l.length := Nat.le_trans (pairsL_length _) (by rw [List.length_take]; exact Nat.min_le_right _ _)
def queryVal (w' : World) (T : TypeId) (w : World) (r : List Pr × Nat × Int) (e : Ending) : Prop :=
  ∃ A c, e = .returned (.tuple #[.slice A r.1.length c, .int .i64 (r.2.1 : Int), .int .i64 r.2.2]) ∧ w'.ownsRow w.heap.size T 3 (.slice A r.1.length c) r.1.length (flat3 r.1) ∧ Below w.heap.size w w'
def GivesQuery (T : TypeId) (w : World) (r : List Pr × Nat × Int) (e : Ending) (w' : World) : Prop := queryVal w' T w r e
theorem gives_query {T : TypeId} {w w' : World} {r : List Pr × Nat × Int} {v : Value} {at_ er : Int} (h1 : at_ = (r.2.1 : Int)) (h2 : er = r.2.2) (ho : w'.ownsRow w.heap.size T 3 v r.1.length (flat3 r.1)) (hb : Below w.heap.size w w') : GivesQuery T w r (.returned (.tuple #[v, .int .i64 at_, .int .i64 er])) w' := by
  obtain ⟨A, c, rfl⟩ := own_slice ho
  exact ⟨A, c, by rw [h1, h2], ho, hb⟩
theorem query_bad {s : ByteArray} (h : queryStop s < s.size) : queryR s = ([], queryStop s, wrongE s (queryStop s) 54) := if_pos h
theorem query_ok {s : ByteArray} (h : ¬ queryStop s < s.size) : queryR s = (pairsL (splitC s 38), 0, 0) := if_neg h
theorem nil_own (w : World) (T : TypeId) : w.ownsRow w.heap.size T 3 (.slice none 0 0) 0 (flat3 []) := World.ownsRow_nil _ _ _ _

set_option maxRecDepth 20000 in
set_option maxHeartbeats 4000000 in
theorem rPairs_any (s : ByteArray) (w : World) (hs : s.size ≤ 4194304) :
    Calls Tryz.prog 40 #[.string s] w (GivesPr 76 w (pairsL (splitC s 38))) := by
  obtain ⟨i0, hi0, hz0, hz1, hz2⟩ := info_parts info_rparam
  have hsz := Lib.hid (fun x (hx : x ∈ splitC s 38) => splitC_size hx)
  have hln := splitC_len s 38
  have HS := Lib.hid (fun w => rsplit_any s 38 w hs)
  generalize splitC s 38 = l at *
  go_enter Tryz.func40, Tryz.ntmps40
  go_wp2_with fail
  refine (HS.out _).mono ?_
  rintro e w1 ⟨A1, c1, rfl, hown1, b1⟩
  have hb1 : Below w.heap.size w w1 := ((Below.refl _ w).alloc (Nat.le_refl _) _).trans (b1.mono (by simp))
  have hemp : w1.ownsRow w.heap.size 76 3 (.slice (some ⟨w.heap.size, 0, none⟩) 0 0) 0 (flat3 []) := own_below (World.ownsRow_lit w #[] 0 (Nat.le_refl _) (by unfold maxLen; omega) rfl) b1
  clear b1
  go_wp2
  go_loopw [3, 5] (fun v i wr => ∃ k : Nat, k ≤ l.length ∧ i = .int .i64 k ∧ wr.ownsRow w.heap.size 76 3 v (pairsL (l.take k)).length (flat3 (pairsL (l.take k))) ∧ Below w.heap.size w wr ∧ wr.ownsRow (w.alloc (.cells #[] 76)).heap.size 9 1 (.slice A1 l.length c1) l.length (l.map .string)) (fun _ i _ => l.length - (RowKit.intOf i).toNat)
  case atStart => exact ⟨0, by omega, rfl, hemp, hb1, hown1⟩
  case round =>
    obtain ⟨k, hk, rfl, hown, hbw, hol⟩ := hrel
    have hpl := pairsL_at l k
    by_cases hlt : k < l.length
    · obtain ⟨p, hp⟩ := some_of_lt hlt
      obtain ⟨b, off, hA, hb, h0⟩ := (own_row hol).str hp
      subst hA
      have hps := Nat.le_trans (hsz.out p (List.mem_of_getElem? hp)) hs
      by_cases hz : p.size = 0
      · have he : p.toList.isEmpty = true := by rw [empty_eq]; exact decide_eq_true hz
        have HK := Lib.hid (pairsL_skip hp hz)
        clear hp hz
        go_wp2
        go_roundw
        case rel => exact ⟨k + 1, by omega, by go_num, by rw [HK.out]; exact hown, hbw, hol⟩
        case measure => simp [RowKit.intOf]; omega
      · have he : p.toList.isEmpty = false := by rw [empty_eq]; exact decide_eq_false hz
        have HK := Lib.hid (pairsL_take hp hz)
        have HC := Lib.hid (fun w => rcut_any p 61 w (by omega))
        unfold cutVal at HC
        unfold pairOf at HK
        have hcs := cutW_size p 61
        clear hp hz
        generalize cutW p 61 = c at *
        obtain ⟨x, y, z⟩ := c
        dsimp only at HC HK hcs
        have HX := Lib.hid (fun w => rspaced_any x w (by omega))
        have HY := Lib.hid (fun w => rspaced_any y w (by omega))
        generalize spacedT x = x' at *
        generalize spacedT y = y' at *
        generalize pairsL (l.take k) = acc at *
        clear hcs
        go_wp2_with fail
        refine (HC.out _).mono ?_
        rintro e w2 ⟨rfl, q, rfl⟩
        go_wp2_with fail
        refine (HX.out _).mono ?_
        rintro e w3 ⟨rfl, b3⟩
        go_wp2_with fail
        refine (HY.out _).mono ?_
        rintro e w4 ⟨rfl, b4⟩
        have b5 : Below wr.heap.size wr w4 := (below_drewN (Below.refl _ wr) q).trans (b3.trans (b4.mono b3.size))
        have hown4 := own_below hown b5
        have hol4 := own_below hol b5
        have hbw4 := hbw.trans (b5.mono hbw.size)
        have hapr := apart_types hown4 hol4 (by decide)
        clear b3 b4 b5 hown hol h0 hb
        go_wp2_with (at_builtin; refine wpList_append_own _ rfl _ _ 36 rfl w.heap.size 76 i0 (.agg #[.string ⟨#[]⟩, .string ⟨#[]⟩, .bool false]) 3 40 Tryz.underlying36 hi0 hz0 hz1 hz2 rfl (by decide) _ _ _ rfl (hown4.alloc _) ⟨w4.heap.size, 0, none⟩ 1 1 [.string x', .string y', .bool z] rfl rfl ?c0 ?c1 ?c2 ?c3 ?c4 ?c5)
        case c0 => exact cells_new3 _ x' y' z _ rfl
        case c1 => exact flat3_oneCell [(x', y', z)]
        case c2 => unfold maxLen; omega
        case c3 => omega
        case c4 => simp; have := hbw4.size; omega
        case c5 =>
          intro v' w5 hown5 hg5 _
          have hb5 : Below w.heap.size w w5 := (hbw4.alloc hbw4.size _).grown hg5 (by simp; have := hbw4.size; omega) (own_lt hown4)
          have ho5 : w5.ownsRow w.heap.size 76 3 v' (pairsL (l.take (k + 1))).length (flat3 (pairsL (l.take (k + 1)))) := by
            rw [HK.out, List.length_append, flat3_append]
            exact hown5
          have hol5 := own_other (hol4.alloc _) hg5 hapr
          clear hown5 hg5 hown4 hol4
          go_wp2
          go_roundw
          case rel => exact ⟨k + 1, by omega, by go_num, ho5, hb5, hol5⟩
          case measure => simp [RowKit.intOf]; omega
    · obtain rfl : k = l.length := by omega
      rw [List.take_length] at hown
      go_wp2
      go_ret
      exact gives_pr hown hbw
set_option maxRecDepth 20000 in
set_option maxHeartbeats 4000000 in
theorem Query_any (s : ByteArray) (w : World) (hs : s.size ≤ 4194304) (hg : Glob w) :
    Calls Tryz.prog 14 #[.string s] w (GivesQuery 51 w (queryR s)) := by
  obtain ⟨i0, hi0, hz0, hz1, hz2⟩ := info_parts info_param
  have HQ := Lib.hid (fun w => signs_query s w (by omega))
  by_cases hb : queryStop s < s.size
  · have HB := Lib.hid (query_bad hb)
    have HW := Lib.hid (fun w => wrong_any s (queryStop s) 54 w hb)
    generalize queryStop s = n at *
    have hlt : (n : Int) < (s.size : Int) := by omega
    clear hb
    go_enter Tryz.func14, Tryz.ntmps14
    go_wp2_with fail
    refine (HQ.out _).mono ?_
    rintro e w1 ⟨rfl, q, rfl⟩
    go_wp2_with fail
    refine (HW.out _).mono ?_
    rintro e w1 ⟨rfl, rfl⟩
    go_wp2
    go_ret3
    rw [HB.out]
    exact gives_query rfl rfl (World.ownsRow_nil _ _ _ _) (below_drewN (Below.refl _ _) q)
  · have HB := Lib.hid (query_ok hb)
    have hnl : (s.size : Int) ≤ (queryStop s : Int) := by omega
    generalize queryStop s = n at *
    have HSS := Lib.hid (fun w hg => Split_any s 38 w hs hg)
    rw [show ((38 : UInt8).toNat : Int) = 38 from rfl] at HSS
    have hsz := Lib.hid (fun x (hx : x ∈ splitC s 38) => splitC_size hx)
    have hln := splitC_len s 38
    generalize splitC s 38 = l at *
    clear hb
    go_enter Tryz.func14, Tryz.ntmps14
    go_wp2_with fail
    refine (HQ.out _).mono ?_
    rintro e w1 ⟨rfl, q, rfl⟩
    have hg0 := hg.drewN q
    go_wp2_with fail
    refine (HSS.out _ hg0).mono ?_
    rintro e w2 ⟨rfl, hw2⟩
    have hrow : Row w2 (some ⟨w.heap.size, 0, none⟩) (l.map .string) := by rw [hw2]; exact row_new (w.drewN q) l 9
    have hb1 : Below w.heap.size w w2 := by rw [hw2]; exact (below_drewN (Below.refl _ w) q).alloc (Nat.le_refl _) _
    have hg1 := hg.beyond hb1
    clear hw2 hg0
    go_wp2
    go_loopw [6, 26] (fun v i wr => ∃ k : Nat, k ≤ l.length ∧ i = .int .i64 k ∧ wr.ownsRow w2.heap.size 51 3 v (pairsL (l.take k)).length (flat3 (pairsL (l.take k))) ∧ Below w2.heap.size w2 wr) (fun _ i _ => l.length - (RowKit.intOf i).toNat)
    case atStart => exact ⟨0, by omega, rfl, World.ownsRow_nil _ _ _ _, Below.refl _ _⟩
    case round =>
      obtain ⟨k, hk, rfl, hown, hbw⟩ := hrel
      have hpl := pairsL_at l k
      by_cases hlt : k < l.length
      · obtain ⟨p, hp⟩ := some_of_lt hlt
        obtain ⟨b, off, hA, hb, h0⟩ := (hrow.below hbw).str hp
        injection hA with hA
        injection hA with hA1 hA2
        subst hA1 hA2
        rw [Nat.zero_add] at h0
        have hps := Nat.le_trans (hsz.out p (List.mem_of_getElem? hp)) hs
        by_cases hz : p.size = 0
        · have he : p.toList.isEmpty = true := by rw [empty_eq]; exact decide_eq_true hz
          have HK := Lib.hid (pairsL_skip hp hz)
          clear hp hz
          go_wp2
          go_roundw
          case rel => exact ⟨k + 1, by omega, by go_num, by rw [HK.out]; exact hown, hbw⟩
          case measure => simp [RowKit.intOf]; omega
        · have he : p.toList.isEmpty = false := by rw [empty_eq]; exact decide_eq_false hz
          have HK := Lib.hid (pairsL_take hp hz)
          have HC := Lib.hid (fun w hg => Cut_any p 61 w hps hg)
          rw [show ((61 : UInt8).toNat : Int) = 61 from rfl] at HC
          unfold cutVal at HC
          unfold pairOf at HK
          have hcs := cutW_size p 61
          clear hp hz
          generalize cutW p 61 = c at *
          obtain ⟨x, y, z⟩ := c
          dsimp only at HC HK hcs
          have HX := Lib.hid (fun w hg => Text_plus x w (by omega) hg)
          have HY := Lib.hid (fun w hg => Text_plus y w (by omega) hg)
          generalize spacedT x = x' at *
          generalize spacedT y = y' at *
          generalize pairsL (l.take k) = acc at *
          clear hcs
          have hgr := hg1.beyond hbw
          go_wp2_with fail
          refine (HC.out _ hgr).mono ?_
          rintro e w3 ⟨rfl, q3, rfl⟩
          go_wp2_with fail
          refine (HX.out _ (hgr.drewN q3)).mono ?_
          rintro e w4 ⟨rfl, b4⟩
          have hg4 := (hgr.drewN q3).beyond b4
          go_wp2_with fail
          refine (HY.out _ hg4).mono ?_
          rintro e w5 ⟨rfl, b5⟩
          have b6 : Below wr.heap.size wr w5 := (below_drewN (Below.refl _ wr) q3).trans (b4.trans (b5.mono b4.size))
          have hown4 := own_below hown b6
          have hbw4 := hbw.trans (b6.mono hbw.size)
          clear b4 b5 b6 hown h0 hb hg4 hgr
          go_wp2_with (at_builtin; refine wpList_append_own _ rfl _ _ 33 rfl w2.heap.size 51 i0 (.agg #[.string ⟨#[]⟩, .string ⟨#[]⟩, .bool false]) 3 40 Tryz.underlying33 hi0 hz0 hz1 hz2 rfl (by decide) _ _ _ rfl (hown4.alloc _) ⟨w5.heap.size, 0, none⟩ 1 1 [.string x', .string y', .bool z] rfl rfl ?c0 ?c1 ?c2 ?c3 ?c4 ?c5)
          case c0 => exact cells_new3 _ x' y' z _ rfl
          case c1 => exact flat3_oneCell [(x', y', z)]
          case c2 => unfold maxLen; omega
          case c3 => omega
          case c4 => simp; have := hbw4.size; omega
          case c5 =>
            intro v' w6 hown5 hg5 _
            have hb5 : Below w2.heap.size w2 w6 := (hbw4.alloc hbw4.size _).grown hg5 (by simp; have := hbw4.size; omega) (own_lt hown4)
            have ho5 : w6.ownsRow w2.heap.size 51 3 v' (pairsL (l.take (k + 1))).length (flat3 (pairsL (l.take (k + 1)))) := by
              rw [HK.out, List.length_append, flat3_append]
              exact hown5
            clear hown5 hg5 hown4
            go_wp2
            go_roundw
            case rel => exact ⟨k + 1, by omega, by go_num, ho5, hb5⟩
            case measure => simp [RowKit.intOf]; omega
      · obtain rfl : k = l.length := by omega
        rw [List.take_length] at hown
        go_wp2
        go_ret3
        rw [HB.out]
        exact gives_query rfl rfl (hown.mono hb1.size) (hb1.trans (hbw.mono hb1.size))
set_option maxRecDepth 20000 in
set_option maxHeartbeats 2000000 in
theorem rQuery_any (s : ByteArray) (w : World) (hs : s.size ≤ 4194304) :
    Calls Tryz.prog 15 #[.string s] w (GivesQuery 76 w (queryR s)) := by
  have HQ := Lib.hid (fun w => scan_query s w (by omega))
  by_cases hb : queryStop s < s.size
  · have HB := Lib.hid (query_bad hb)
    have hne := wrongE_code s (queryStop s) 54 (.inr rfl)
    rw [scan_yes hb] at HQ
    unfold scanVal at HQ
    dsimp only at HQ
    rw [show stopF querySign s 0 = queryStop s from rfl] at HQ
    generalize wrongE s (queryStop s) 54 = er at *
    generalize queryStop s = n at *
    clear hb
    go_enter Tryz.func15, Tryz.ntmps15
    go_wp2_with fail
    refine (HQ.out _).mono ?_
    rintro e w1 ⟨rfl, rfl⟩
    go_wp2
    go_ret3
    rw [HB.out]
    exact gives_query rfl rfl (World.ownsRow_lit w #[] 0 (Nat.le_refl _) (by unfold maxLen; omega) rfl) ((Below.refl _ w).alloc (Nat.le_refl _) _)
  · have HB := Lib.hid (query_ok hb)
    rw [scan_no hb] at HQ
    unfold scanVal at HQ
    dsimp only at HQ
    have HP := Lib.hid (fun w => rPairs_any s w hs)
    generalize pairsL (splitC s 38) = l at *
    clear hb
    go_enter Tryz.func15, Tryz.ntmps15
    go_wp2_with fail
    refine (HQ.out _).mono ?_
    rintro e w1 ⟨rfl, rfl⟩
    go_wp2_with fail
    refine (HP.out _).mono ?_
    rintro e w2 ⟨A, c, rfl, ho, b2⟩
    go_wp2
    go_ret3
    rw [HB.out]
    exact gives_query rfl rfl ho b2
end Go.Proofs.YtjlnbjlhlglneaaGreatDoor
