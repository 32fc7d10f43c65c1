/-
  Elements and tokens of a name: the walks of List, Tokens, Has, of the program and of the reference.
-/
import Derived.Test.YtamagbdkcfmfmaaDoorStrs
import Derived.Laws.OwnMore
namespace Go.Proofs.YtamagbdkcfmfmaaDoor
open Go.RowKit Go.Shelf Go.Lib

theorem take_sum (l : List ByteArray) (k : Nat) : ((l.take k).map (·.size)).sum ≤ (l.map (·.size)).sum := by
  induction l generalizing k with
  | nil => simp
  | cons x l ih =>
    cases k with
    | zero => simp
    | succ k => simp only [List.take_succ_cons, List.map_cons, List.sum_cons]; have := ih k; omega
theorem elems_len {vs x : List ByteArray} {k : Nat} (h : elemsAll (vs.take k) = some x) : x.length ≤ (vs.map (·.size)).sum := by
  have h1 := elemsAll_weight _ _ h
  have h2 := h1.2.le
  have h3 := take_sum vs k
  omega
theorem elemsAll_next {vs x y : List ByteArray} {k : Nat} {s : ByteArray} (hs : vs[k]? = some s) (hx : elemsAll (vs.take k) = some x) (hy : elems s = some y) : elemsAll (vs.take (k + 1)) = some (x ++ y) := by
  rw [take_snoc hs, elemsAll_snoc, hx, hy]
/-- What is known of the elements of a name. -/
theorem listR_bound (vs : List ByteArray) : ((listR vs).1.map (·.size)).sum ≤ (vs.map (·.size)).sum ∧ Full (listR vs).1 ∧ (listR vs).1.length ≤ (vs.map (·.size)).sum := by
  rcases listR_err vs with ⟨_, h⟩ | ⟨h, _⟩
  · have h1 := elemsAll_weight _ _ h
    have h2 := h1.2.le
    exact ⟨h1.1, h1.2, by omega⟩
  · rw [h]
    exact ⟨by simp, (fun x hx => by cases hx), by simp⟩
theorem tokR_len (r : List ByteArray × Int) : (tokR r).1.length ≤ r.1.length := by
  unfold tokR
  split
  · split <;> simp
  · simp

set_option maxRecDepth 20000 in
set_option maxHeartbeats 2000000 in
theorem fList_any (A : Option Addr) (c : Nat) (l : List Fl) (name : ByteArray) (w : World) (hr : Row w A (flat l)) (hk : bulkF l ≤ 1048576) (hn : name.size ≤ maxLen) :
    Calls Tryd.prog 46 #[.slice A l.length c, .string name] w (GivesStrsE w (listR (allV l name))) := by
  obtain ⟨i0, hi0, hz0, hz1, hz2⟩ := info_parts info_string
  have hbl := bulk_len l
  have hba := bulk_all l name
  have HA := Lib.hid (All_any A c l name w hr (by omega) (bulk_wide hk) hn)
  generalize allV l name = vs at *
  go_enter Tryd.func46, Tryd.ntmps46
  go_wp2_with fail
  refine HA.out.mono ?_
  rintro e w1 ⟨A1, c1, rfl, hown1, hb1⟩
  have hrow := own_row hown1
  clear hown1 HA
  go_wp2
  go_loopw [6, 15] (fun v i wr => ∃ (k : Nat) (x : List ByteArray), k ≤ vs.length ∧ i = .int .i64 k ∧ wr.ownsRow w1.heap.size 9 1 v x.length (x.map .string) ∧ Below w1.heap.size w1 wr ∧ elemsAll (vs.take k) = some x) (fun _ i _ => vs.length - (RowKit.intOf i).toNat)
  case atStart => exact ⟨0, [], by omega, rfl, World.ownsRow_nil _ _ _ _, Below.refl _ _, rfl⟩
  case round =>
    obtain ⟨k, x, hkk, rfl, hown, hbw, hx⟩ := hrel
    have hxl := elems_len hx
    have HX := Lib.hid hx
    clear hx
    by_cases hlt : k < vs.length
    · obtain ⟨s, hs⟩ := some_of_lt hlt
      obtain ⟨b, off, rfl, hb, h0⟩ := (hrow.below hbw).str hs
      have hss : s.size ≤ (vs.map (·.size)).sum := size_le_sum (List.mem_of_getElem? hs)
      have HL := Lib.hid (fun w => oList_any s w (by omega))
      cases he : elems s with
      | none =>
        have HR := Lib.hid (listR_none (elemsAll_bad hs he))
        rw [he] at HL
        clear he hs
        go_wp2_with fail
        refine (HL.out _).mono ?_
        rintro e w2 ⟨A2, c2, rfl, _, hb2⟩
        go_wp2
        go_ret2
        exact gives_strsE0 HR.out (hb1.trans ((hbw.trans (hb2.mono hbw.size)).mono hb1.size))
      | some y =>
        have HR := Lib.hid (elemsAll_next hs HX.out he)
        have hyl := elems_len HR.out
        rw [List.length_append] at hyl
        rw [he] at HL
        clear he hs
        go_wp2_with fail
        refine (HL.out _).mono ?_
        rintro e w2 ⟨A2, c2, rfl, hown2, hb2⟩
        have hown' := own_below hown hb2
        have hbw2 := hbw.trans (hb2.mono hbw.size)
        have hrow2 : Row w2 A2 (y.map .string) := own_row hown2
        clear hown hb2 hown2
        go_wp2_with (at_builtin; refine wpList_append_any _ rfl (.tmp 27) (.tmp 28) 60 rfl w1.heap.size 9 i0 (.string ⟨#[]⟩) 1 16 Tryd.underlying60 hi0 hz0 hz1 hz2 rfl (by decide) _ x.length (x.map .string) rfl hown' _ A2 y.length c2 (y.map .string) rfl (reads_of_row hrow2 (by simp) (by decide)) ?c1 ?c2 ?c3 ?c4 ?c5)
        case c1 => exact strs_oneCell y
        case c2 => unfold maxLen; omega
        case c3 => omega
        case c4 => exact hbw2.size
        case c5 =>
          intro v' w3 hown3 hg3 _
          have hb3 : Below w1.heap.size w1 w3 := hbw2.grown hg3 hbw2.size (own_lt hown')
          clear hg3 hown'
          go_wp2
          go_roundw
          case rel => exact ⟨k + 1, x ++ y, by omega, by go_num, by rw [List.map_append, List.length_append]; exact hown3, hb3, HR.out⟩
          case measure => simp [RowKit.intOf]; omega
    · obtain rfl : k = vs.length := by omega
      have hX := HX.out
      rw [List.take_length] at hX
      have HR := Lib.hid (listR_some hX)
      clear hX
      obtain ⟨A', c', rfl⟩ := own_slice hown
      go_wp2
      go_ret2
      exact gives_strsE HR.out (hown.mono hb1.size) (hb1.trans (hbw.mono hb1.size))

set_option maxRecDepth 20000 in
set_option maxHeartbeats 2000000 in
theorem rList_any (A : Option Addr) (c : Nat) (l : List Fl) (name : ByteArray) (w : World) (hr : Row w A (flat l)) (hk : bulkF l ≤ 1048576) (hn : name.size ≤ maxLen) :
    Calls Tryd.prog 58 #[.slice A l.length c, .string name] w (GivesStrsE w (listR (allV l name))) := by
  obtain ⟨i0, hi0, hz0, hz1, hz2⟩ := info_parts info_string
  have hbl := bulk_len l
  have hba := bulk_all l name
  have HA := Lib.hid (rAll_any A c l name w hr (by omega) (bulk_wide hk) hn)
  generalize allV l name = vs at *
  go_enter Tryd.func58, Tryd.ntmps58
  go_wp2_with fail
  refine HA.out.mono ?_
  rintro e w1 ⟨A1, c1, rfl, hown1, hb1⟩
  have hrow := own_row hown1
  clear hown1 HA
  go_wp2
  go_loopw [6, 15] (fun v i wr => ∃ (k : Nat) (x : List ByteArray), k ≤ vs.length ∧ i = .int .i64 k ∧ wr.ownsRow w1.heap.size 9 1 v x.length (x.map .string) ∧ Below w1.heap.size w1 wr ∧ elemsAll (vs.take k) = some x) (fun _ i _ => vs.length - (RowKit.intOf i).toNat)
  case atStart => exact ⟨0, [], by omega, rfl, World.ownsRow_nil _ _ _ _, Below.refl _ _, rfl⟩
  case round =>
    obtain ⟨k, x, hkk, rfl, hown, hbw, hx⟩ := hrel
    have hxl := elems_len hx
    have HX := Lib.hid hx
    clear hx
    by_cases hlt : k < vs.length
    · obtain ⟨s, hs⟩ := some_of_lt hlt
      obtain ⟨b, off, rfl, hb, h0⟩ := (hrow.below hbw).str hs
      have hss : s.size ≤ (vs.map (·.size)).sum := size_le_sum (List.mem_of_getElem? hs)
      have HL := Lib.hid (fun w => rElements_any s w (by omega))
      cases he : elems s with
      | none =>
        have HR := Lib.hid (listR_none (elemsAll_bad hs he))
        rw [he] at HL
        clear he hs
        go_wp2_with fail
        refine (HL.out _).mono ?_
        rintro e w2 ⟨A2, c2, rfl, _, hb2⟩
        go_wp2
        go_ret2
        exact gives_strsE0 HR.out (hb1.trans ((hbw.trans (hb2.mono hbw.size)).mono hb1.size))
      | some y =>
        have HR := Lib.hid (elemsAll_next hs HX.out he)
        have hyl := elems_len HR.out
        rw [List.length_append] at hyl
        rw [he] at HL
        clear he hs
        go_wp2_with fail
        refine (HL.out _).mono ?_
        rintro e w2 ⟨A2, c2, rfl, hown2, hb2⟩
        have hown' := own_below hown hb2
        have hbw2 := hbw.trans (hb2.mono hbw.size)
        have hrow2 : Row w2 A2 (y.map .string) := own_row hown2
        clear hown hb2 hown2
        go_wp2_with (at_builtin; refine wpList_append_any _ rfl (.tmp 26) (.tmp 27) 60 rfl w1.heap.size 9 i0 (.string ⟨#[]⟩) 1 16 Tryd.underlying60 hi0 hz0 hz1 hz2 rfl (by decide) _ x.length (x.map .string) rfl hown' _ A2 y.length c2 (y.map .string) rfl (reads_of_row hrow2 (by simp) (by decide)) ?c1 ?c2 ?c3 ?c4 ?c5)
        case c1 => exact strs_oneCell y
        case c2 => unfold maxLen; omega
        case c3 => omega
        case c4 => exact hbw2.size
        case c5 =>
          intro v' w3 hown3 hg3 _
          have hb3 : Below w1.heap.size w1 w3 := hbw2.grown hg3 hbw2.size (own_lt hown')
          clear hg3 hown'
          go_wp2
          go_roundw
          case rel => exact ⟨k + 1, x ++ y, by omega, by go_num, by rw [List.map_append, List.length_append]; exact hown3, hb3, HR.out⟩
          case measure => simp [RowKit.intOf]; omega
    · obtain rfl : k = vs.length := by omega
      have hX := HX.out
      rw [List.take_length] at hX
      have HR := Lib.hid (listR_some hX)
      clear hX
      obtain ⟨A', c', rfl⟩ := own_slice hown
      go_wp2
      go_ret2
      exact gives_strsE HR.out (hown.mono hb1.size) (hb1.trans (hbw.mono hb1.size))

theorem map_mix {l : List ByteArray} {k : Nat} {x : ByteArray} (h : l[k]? = some x) : (((l.take k).map lower ++ l.drop k).map Value.string).set k (.string (lower x)) = ((l.take (k + 1)).map lower ++ l.drop (k + 1)).map Value.string := by
  obtain ⟨hk, rfl⟩ := List.getElem?_eq_some_iff.1 h
  have hl : (((l.take k).map lower).map Value.string).length = k := by simp; omega
  rw [List.take_succ_eq_append_getElem hk]
  simp only [List.map_append, List.map_cons, List.map_nil, List.append_assoc, List.cons_append, List.nil_append]
  rw [List.set_append_right _ _ (by omega), hl, Nat.sub_self, List.drop_eq_getElem_cons hk, List.map_cons, List.set_cons_zero]
theorem mix_at {l : List ByteArray} {k : Nat} {x : ByteArray} (h : l[k]? = some x) : ((l.take k).map lower ++ l.drop k)[k]? = some x := by
  obtain ⟨hk, rfl⟩ := List.getElem?_eq_some_iff.1 h
  have hl : ((l.take k).map lower).length = k := by simp; omega
  rw [List.getElem?_append_right (by omega), hl, Nat.sub_self, List.drop_eq_getElem_cons hk, List.getElem?_cons_zero]
theorem mix_len (l : List ByteArray) (k : Nat) : ((l.take k).map lower ++ l.drop k).length = l.length := by simp; omega
set_option maxRecDepth 20000 in
set_option maxHeartbeats 2000000 in
theorem Tokens_any (A : Option Addr) (c : Nat) (l : List Fl) (name : ByteArray) (w : World) (hr : Row w A (flat l)) (hk : bulkF l ≤ 1048576) (hn : name.size ≤ maxLen) (hg : Glob w) :
    Calls Tryd.prog 45 #[.slice A l.length c, .string name] w (GivesStrsE w (tokR (listR (allV l name)))) := by
  have hba := bulk_all l name
  have HL := Lib.hid (fList_any A c l name w hr hk hn)
  have hlb := listR_bound (allV l name)
  generalize allV l name = vs at *
  generalize listR vs = r at *
  obtain ⟨x, ec⟩ := r
  obtain ⟨hx1, _, hx2⟩ := hlb
  simp only at hx1 hx2
  by_cases he : ec = 0
  · subst he
    go_enter Tryd.func45, Tryd.ntmps45
    go_wp2_with fail
    refine HL.out.mono ?_
    rintro e w1 ⟨A1, c1, rfl, hown1, hb1⟩
    have hg1 := hg.beyond hb1
    have hcap := own_cap hown1
    simp only at hown1 hcap
    clear HL
    go_wp2
    go_loopw [21] (fun i wr => ∃ k : Nat, k ≤ x.length ∧ i = .int .i64 k ∧ wr.ownsRow w.heap.size 9 1 (.slice A1 x.length c1) x.length (((x.take k).map lower ++ x.drop k).map .string) ∧ Below w.heap.size w wr ∧ (∀ (j : Nat) s, j < k → x[j]? = some s → isTok s = true)) (fun i _ => x.length - (RowKit.intOf i).toNat)
    case atStart => exact ⟨0, by omega, rfl, hown1, hb1, fun j s h _ => by omega⟩
    case round =>
      obtain ⟨k, hkk, rfl, hown, hbw, hT⟩ := hrel
      have HT := Lib.hid hT
      clear hT
      by_cases hlt : k < x.length
      · obtain ⟨s, hs⟩ := some_of_lt hlt
        obtain ⟨g, cap, hv, hgcap, hglt⟩ := hown.form (by omega)
        injection hv with hA hL hC
        subst hA hC
        have hcell := hown.cellAt k (by omega)
        rw [List.getElem?_map, mix_at hs] at hcell
        have hc0 : w.heap.size ≤ g := (hown.lt g rfl).1
        have hss : s.size ≤ (x.map (·.size)).sum := size_le_sum (List.mem_of_getElem? hs)
        have HM := Lib.hid (map_mix hs)
        have HS := Lib.hid hs
        have hgw := hg.beyond hbw
        have hcell : wr.cell? ⟨g, k, none⟩ = some (.string s) := hcell
        have hsm : s.size ≤ maxLen := by unfold maxLen; omega
        have HI := Lib.hid (IsToken_any s wr hsm hgw)
        have HW := Lib.hid (fun w => Lower_any s w hsm)
        clear hs hsm hL
        cases ht : isTok s
        · have HR := Lib.hid (tokR_bad HS.out ht)
          go_wp2_with fail
          refine HI.out.mono ?_
          rw [ht]
          rintro e w' ⟨rfl, rfl⟩
          go_wp2
          go_ret2
          exact gives_strsE0 (by rw [HR.out]) hbw
        · go_wp2_with fail
          refine HI.out.mono ?_
          rw [ht]
          rintro e w' ⟨rfl, rfl⟩
          go_wp2_with fail
          refine (HW.out _).mono ?_
          rintro e w2 ⟨rfl, hb2⟩
          have hown2 := own_below hown hb2
          have hbw2 := hbw.trans (hb2.mono hbw.size)
          obtain ⟨hs1, hs2⟩ := hown2.stored k (.string (lower s))
          rw [HM.out] at hs1
          have hf0 : w2.frozen? ⟨g, k, none⟩ = false := hown2.frozenAt _
          have hc2 : w2.cell? ⟨g, k, none⟩ = some (.string s) := (hb2.cell (p := ⟨g, k, none⟩) hglt).trans hcell
          have hbn : Below w.heap.size w (w2.setCell ⟨g, k, none⟩ (.string (lower s))) := hbw2.grown hs2 hbw2.size (fun k hk => by injection hk with hk; omega)
          have HB := Lib.hid hbn
          have HO := Lib.hid hs1
          clear hcell hown hb2 hown2 hs1 hs2 hbn
          go_wp2
          go_roundw
          case rel => exact ⟨k + 1, by omega, by go_num, HO.out, HB.out, fun j s' h hj => by
            by_cases e : j = k
            · subst e
              have := HS.out.symm.trans hj
              injection this with this
              rw [← this]
              exact ht
            · exact HT.out j s' (by omega) hj⟩
          case measure => simp [RowKit.intOf]; omega
      · obtain rfl : k = x.length := by omega
        rw [List.take_length, List.drop_length, List.append_nil] at hown
        have HR := Lib.hid (tokR_ok (x := x) (fun j s hj => HT.out j s (lt_of_some hj) hj))
        have hlen : (x.map lower).length = x.length := by simp
        go_wp2
        go_ret2
        refine ⟨A1, c1, ?_, ?_, hbw⟩
        · rw [HR.out]; simp only [hlen]; rfl
        · rw [HR.out]; simp only [hlen]; exact hown
  · have hne : (ec != 0) = true := by simpa using he
    have HR := Lib.hid (tokR_err (r := (x, ec)) he)
    clear he
    go_enter Tryd.func45, Tryd.ntmps45
    go_wp2_with fail
    refine HL.out.mono ?_
    rintro e w1 ⟨A1, c1, rfl, _, hb1⟩
    go_wp2
    go_ret2
    exact gives_strsE0 HR.out hb1

set_option maxRecDepth 20000 in
set_option maxHeartbeats 2000000 in
theorem rTokens_any (A : Option Addr) (c : Nat) (l : List Fl) (name : ByteArray) (w : World) (hr : Row w A (flat l)) (hk : bulkF l ≤ 1048576) (hn : name.size ≤ maxLen) :
    Calls Tryd.prog 59 #[.slice A l.length c, .string name] w (GivesStrsE w (tokR (listR (allV l name)))) := by
  obtain ⟨i0, hi0, hz0, hz1, hz2⟩ := info_parts info_string
  have hba := bulk_all l name
  have HL := Lib.hid (rList_any A c l name w hr hk hn)
  have hlb := listR_bound (allV l name)
  generalize allV l name = vs at *
  generalize listR vs = r at *
  obtain ⟨x, ec⟩ := r
  obtain ⟨hx1, _, hx2⟩ := hlb
  simp only at hx1 hx2
  by_cases he : ec = 0
  · subst he
    go_enter Tryd.func59, Tryd.ntmps59
    go_wp2_with fail
    refine HL.out.mono ?_
    rintro e w1 ⟨A1, c1, rfl, hown1, hb1⟩
    have hrow := own_row hown1
    simp only at hrow
    clear HL hown1
    go_wp2
    go_loopw [8, 22] (fun v i wr => ∃ k : Nat, k ≤ x.length ∧ i = .int .i64 k ∧ wr.ownsRow w1.heap.size 9 1 v (x.take k).length (((x.take k).map lower).map .string) ∧ Below w1.heap.size w1 wr ∧ (∀ (j : Nat) s, j < k → x[j]? = some s → isTok s = true)) (fun _ i _ => x.length - (RowKit.intOf i).toNat)
    case atStart => exact ⟨0, by omega, rfl, World.ownsRow_nil _ _ _ _, Below.refl _ _, fun j s h _ => by omega⟩
    case round =>
      obtain ⟨k, hkk, rfl, hown, hbw, hT⟩ := hrel
      have HT := Lib.hid hT
      clear hT
      by_cases hlt : k < x.length
      · obtain ⟨s, hs⟩ := some_of_lt hlt
        obtain ⟨b, off, rfl, hb, h0⟩ := (hrow.below hbw).str hs
        have hss : s.size ≤ (x.map (·.size)).sum := size_le_sum (List.mem_of_getElem? hs)
        have HS := Lib.hid hs
        have HK := Lib.hid (take_snoc hs)
        have hsm : s.size ≤ maxLen := by unfold maxLen; omega
        have HI := Lib.hid (rToken_any s wr hsm)
        have HW := Lib.hid (fun w => rLower_any s w hsm)
        have hlk : (x.take k).length ≤ k := List.length_take_le _ _
        have HLK := Lib.hid (List.length_take_of_le hkk)
        clear hs hsm
        cases ht : isTok s
        · have HR := Lib.hid (tokR_bad HS.out ht)
          go_wp2_with fail
          refine HI.out.mono ?_
          rw [ht]
          rintro e w' ⟨rfl, rfl⟩
          go_wp2
          go_ret2
          exact gives_strsE0 (by rw [HR.out]) (hb1.trans (hbw.mono hb1.size))
        · go_wp2_with fail
          refine HI.out.mono ?_
          rw [ht]
          rintro e w' ⟨rfl, rfl⟩
          go_wp2_with fail
          refine (HW.out _).mono ?_
          rintro e w2 ⟨rfl, hb2⟩
          have hown2 := own_below hown hb2
          have hbw2 := hbw.trans (hb2.mono hbw.size)
          clear hown hb2
          go_wp2_with (at_builtin; refine wpList_append_own _ rfl _ _ 60 rfl w1.heap.size 9 i0 (.string ⟨#[]⟩) 1 16 Tryd.underlying60 hi0 hz0 hz1 hz2 rfl (by decide) _ _ _ rfl (hown2.alloc _) ⟨w2.heap.size, 0, none⟩ 1 1 [.string (lower s)] rfl rfl (cell_one_new _ _ _) ?c1 ?c2 ?c3 ?c4 ?c5)
          case c1 => exact strs_oneCell [lower s]
          case c2 => unfold maxLen; omega
          case c3 => omega
          case c4 => simp; have := hbw2.size; omega
          case c5 =>
            intro v' w3 hown3 hg3 _
            go_wp2
            go_roundw
            case rel => exact ⟨k + 1, by omega, by go_num, by rw [HK.out, List.length_append, HLK.out]; simpa using hown3, (hbw2.alloc hbw2.size _).grown hg3 (by simp; have := hbw2.size; omega) (own_lt hown2), fun j s' h hj => by
              by_cases e : j = k
              · subst e
                have := HS.out.symm.trans hj
                injection this with this
                rw [← this]
                exact ht
              · exact HT.out j s' (by omega) hj⟩
            case measure => simp [RowKit.intOf]; omega
      · obtain rfl : k = x.length := by omega
        rw [List.take_length] at hown
        have HR := Lib.hid (tokR_ok (x := x) (fun j s hj => HT.out j s (lt_of_some hj) hj))
        have hlen : (x.map lower).length = x.length := by simp
        obtain ⟨A', c', rfl⟩ := own_slice hown
        go_wp2
        go_ret2
        refine ⟨A', c', ?_, ?_, hb1.trans (hbw.mono hb1.size)⟩
        · rw [HR.out]; simp only [hlen]; rfl
        · rw [HR.out]; simp only [hlen]; exact hown.mono hb1.size
  · have hne : (ec != 0) = true := by simpa using he
    have HR := Lib.hid (tokR_err (r := (x, ec)) he)
    clear he
    go_enter Tryd.func59, Tryd.ntmps59
    go_wp2_with fail
    refine HL.out.mono ?_
    rintro e w1 ⟨A1, c1, rfl, _, hb1⟩
    go_wp2
    go_ret2
    exact gives_strsE0 HR.out hb1

set_option maxRecDepth 20000 in
set_option maxHeartbeats 1000000 in
theorem Has_any (A : Option Addr) (c : Nat) (l : List Fl) (name token : ByteArray) (w : World) (hr : Row w A (flat l)) (hk : bulkF l ≤ 1048576) (hn : name.size ≤ maxLen) (ht : token.size ≤ maxLen) (hg : Glob w) :
    Calls Tryd.prog 60 #[.slice A l.length c, .string name, .string token] w fun e w' => e = .returned (.bool (hasR (tokR (listR (allV l name))) token)) ∧ Below w.heap.size w w' := by
  have hba := bulk_all l name
  have HT := Lib.hid (Tokens_any A c l name w hr hk hn hg)
  have hlb := (listR_bound (allV l name)).2.2
  have htl := tokR_len (listR (allV l name))
  generalize allV l name = vs at *
  generalize listR vs = r at *
  generalize tokR r = q at *
  obtain ⟨x, ec⟩ := q
  simp only at htl
  have HW := Lib.hid (fun w => Lower_any token w ht)
  by_cases he : ec = 0
  · subst he
    have HR := Lib.hid (show hasR (x, 0) token = isIn x (lower token) by simp [hasR])
    go_enter Tryd.func60, Tryd.ntmps60
    go_wp2_with fail
    refine HT.out.mono ?_
    rintro e w1 ⟨A1, c1, rfl, hown1, hb1⟩
    have hrow := own_row hown1
    simp only at hrow
    clear HT hown1
    go_wp2_with fail
    refine (HW.out _).mono ?_
    rintro e w2 ⟨rfl, hb2⟩
    have hrow2 := hrow.below hb2
    clear hrow
    go_wp2_with fail
    refine (Contains_any A1 c1 x (lower token) w2 hrow2 (by omega)).mono ?_
    rintro e w3 ⟨rfl, rfl⟩
    go_wp2
    go_ret
    exact ⟨ret_bool HR.out.symm, hb1.trans (hb2.mono hb1.size)⟩
  · have hne : (ec == 0) = false := beq_eq_false_iff_ne.2 he
    have HR := Lib.hid (show hasR (x, ec) token = false by simp [hasR, he])
    clear he
    go_enter Tryd.func60, Tryd.ntmps60
    go_wp2_with fail
    refine HT.out.mono ?_
    rintro e w1 ⟨A1, c1, rfl, _, hb1⟩
    go_wp2
    go_ret
    exact ⟨ret_bool HR.out.symm, hb1⟩

set_option maxRecDepth 20000 in
set_option maxHeartbeats 1000000 in
theorem rHas_any (A : Option Addr) (c : Nat) (l : List Fl) (name token : ByteArray) (w : World) (hr : Row w A (flat l)) (hk : bulkF l ≤ 1048576) (hn : name.size ≤ maxLen) (ht : token.size ≤ maxLen) :
    Calls Tryd.prog 61 #[.slice A l.length c, .string name, .string token] w fun e w' => e = .returned (.bool (hasR (tokR (listR (allV l name))) token)) ∧ Below w.heap.size w w' := by
  have hba := bulk_all l name
  have HT := Lib.hid (rTokens_any A c l name w hr hk hn)
  have hlb := (listR_bound (allV l name)).2.2
  have htl := tokR_len (listR (allV l name))
  generalize allV l name = vs at *
  generalize listR vs = r at *
  generalize tokR r = q at *
  obtain ⟨x, ec⟩ := q
  simp only at htl
  have HW := Lib.hid (fun w => rLower_any token w ht)
  by_cases he : ec = 0
  · subst he
    have HR := Lib.hid (show hasR (x, 0) token = isIn x (lower token) by simp [hasR])
    go_enter Tryd.func61, Tryd.ntmps61
    go_wp2_with fail
    refine HT.out.mono ?_
    rintro e w1 ⟨A1, c1, rfl, hown1, hb1⟩
    have hrow := own_row hown1
    simp only at hrow
    clear HT hown1
    go_wp2_with fail
    refine (HW.out _).mono ?_
    rintro e w2 ⟨rfl, hb2⟩
    have hrow2 := hrow.below hb2
    clear hrow
    go_wp2_with fail
    refine (rIn_any A1 c1 x (lower token) w2 hrow2 (by omega)).mono ?_
    rintro e w3 ⟨rfl, rfl⟩
    go_wp2
    go_ret
    exact ⟨ret_bool HR.out.symm, hb1.trans (hb2.mono hb1.size)⟩
  · have hne : (ec == 0) = false := beq_eq_false_iff_ne.2 he
    have HR := Lib.hid (show hasR (x, ec) token = false by simp [hasR, he])
    clear he
    go_enter Tryd.func61, Tryd.ntmps61
    go_wp2_with fail
    refine HT.out.mono ?_
    rintro e w1 ⟨A1, c1, rfl, _, hb1⟩
    go_wp2
    go_ret
    exact ⟨ret_bool HR.out.symm, hb1⟩
end Go.Proofs.YtamagbdkcfmfmaaDoor
