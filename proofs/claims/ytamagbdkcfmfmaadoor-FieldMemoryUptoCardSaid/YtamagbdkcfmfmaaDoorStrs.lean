/-
  Lists of texts: the walks of All (reference), In, Contains, texts, Join, Joined.
-/
import Derived.Test.YtamagbdkcfmfmaaDoorListW
import Derived.Test.YtamagbdkcfmfmaaDoorFrame2
import Derived.Test.YtamagbdkcfmfmaaDoorFl
import Derived.Lib.Join
namespace Go.Proofs.YtamagbdkcfmfmaaDoor
open Go.RowKit Go.Shelf Go.Lib

set_option maxRecDepth 20000 in
set_option maxHeartbeats 1000000 in
theorem rAll_any (A : Option Addr) (c : Nat) (l : List Fl) (name : ByteArray) (w : World) (hr : Row w A (flat l)) (hl : l.length ≤ 4398046511104) (hw : Wide l) (hn : name.size ≤ maxLen) :
    Calls Tryd.prog 55 #[.slice A l.length c, .string name] w (GivesStrs w (allV l name)) := by
  obtain ⟨i0, hi0, hz0, hz1, hz2⟩ := info_parts info_string
  go_enter Tryd.func55, Tryd.ntmps55
  go_wp2
  go_loopw [5, 10] (fun v i wr => ∃ k : Nat, k ≤ l.length ∧ i = .int .i64 k ∧ wr.ownsRow w.heap.size 9 1 v (allV (l.take k) name).length ((allV (l.take k) name).map .string) ∧ Below w.heap.size w wr) (fun _ i _ => l.length - (RowKit.intOf i).toNat)
  case atStart => exact ⟨0, by omega, rfl, World.ownsRow_nil _ _ _ _, Below.refl _ _⟩
  case round =>
    obtain ⟨k, hk, rfl, hown, hbw⟩ := hrel
    by_cases hlt : k < l.length
    · obtain ⟨⟨x, y⟩, hxy⟩ := some_of_lt hlt
      obtain ⟨b, off, rfl, hb, h0, h1⟩ := (hr.below hbw).pair hxy
      have hwx := (hw.at_ hxy).1
      have HX := Lib.hid hxy
      clear hxy
      have hlen := allV_length (l.take k) name
      have hlk : (allV (l.take k) name).length ≤ k := Nat.le_trans hlen (List.length_take_le _ _)
      clear hlen
      go_wp2_with fail
      refine (rAlike_any x name _ hwx hn).mono ?_
      rintro e w1 ⟨rfl, hb1⟩
      have hb1' : Below (wr.heap.size + 1) (wr.alloc (.cells #[.string x, .string y] 28)) w1 := by simpa using hb1
      obtain ⟨⟨hc0, hc1⟩, _, hsz⟩ := box2 hb1'
      have hbw1 : Below w.heap.size w w1 := hbw.trans ((below_box hb1').mono hbw.size)
      have hown1 := own_below (hown.alloc _) hb1
      clear hb1 hb1' h0 h1 hown
      cases hal : alike x name
      · have HS := Lib.hid (allV_take (name := name) HX.out)
        go_wp2
        go_roundw
        case rel => exact ⟨k + 1, by omega, by go_num, by rw [HS.out, if_neg (by rw [hal]; simp)]; exact hown1, hbw1⟩
        case measure => simp [RowKit.intOf]; omega
      · have HS := Lib.hid (allV_take (name := name) HX.out)
        go_wp2_with (at_builtin; refine wpList_append_own _ rfl _ _ 60 rfl w.heap.size 9 i0 (.string ⟨#[]⟩) 1 16 Tryd.underlying60 hi0 hz0 hz1 hz2 rfl (by decide) _ _ _ rfl (hown1.alloc _) ⟨w1.heap.size, 0, none⟩ 1 1 [.string y] rfl rfl (cell_one_new _ _ _) ?c1 ?c2 ?c3 ?c4 ?c5)
        case c1 => exact strs_oneCell [y]
        case c2 => unfold maxLen; omega
        case c3 => omega
        case c4 => simp; have := hbw1.size; omega
        case c5 =>
          intro v' w2 hown2 hg2 _
          go_wp2
          go_roundw
          case rel => exact ⟨k + 1, by omega, by go_num, by rw [HS.out, if_pos hal, List.map_append, List.length_append]; exact hown2, (hbw1.alloc hbw1.size _).grown hg2 (by simp; have := hbw1.size; omega) (own_lt hown1)⟩
          case measure => simp [RowKit.intOf]; omega
    · obtain rfl : k = l.length := by omega
      rw [List.take_length] at hown
      obtain ⟨A', c', rfl⟩ := own_slice hown
      go_wp2
      go_ret
      exact ⟨A', c', rfl, hown, hbw⟩


/-! How much the values of a name weigh. -/
theorem bulk_all (l : List Fl) (name : ByteArray) : ((allV l name).map (·.size)).sum + (allV l name).length * 3 ≤ bulkF l := by
  induction l with
  | nil => exact Nat.le_refl _
  | cons p l ih =>
    have e : bulkF (p :: l) = p.1.size + p.2.size + 3 + bulkF l := by simp [bulkF]
    have h : allV (p :: l) name = if alike p.1 name = true then p.2 :: allV l name else allV l name := by
      unfold allV
      cases hp : alike p.1 name <;> simp [hp]
    rw [h, e]
    split
    · simp only [List.map_cons, List.sum_cons, List.length_cons]; omega
    · omega
theorem bulk_len (l : List Fl) : l.length * 3 ≤ bulkF l := by
  induction l with
  | nil => exact Nat.le_refl _
  | cons p l ih =>
    have e : bulkF (p :: l) = p.1.size + p.2.size + 3 + bulkF l := by simp [bulkF]
    rw [e, List.length_cons]; omega
theorem bulk_wide {l : List Fl} (h : bulkF l ≤ 1048576) : Wide l := by
  induction l with
  | nil => intro p hp; cases hp
  | cons p l ih =>
    have e : bulkF (p :: l) = p.1.size + p.2.size + 3 + bulkF l := by simp [bulkF]
    intro q hq
    rcases List.mem_cons.1 hq with rfl | hq
    · constructor <;> unfold maxLen <;> omega
    · exact ih (by omega) q hq
theorem bulk_at {l : List Fl} (h : bulkF l ≤ 1048576) {k : Nat} {x y : ByteArray} (hk : l[k]? = some (x, y)) : x.size ≤ 1048576 ∧ y.size ≤ 1048576 := by
  induction l generalizing k with
  | nil => simp at hk
  | cons p l ih =>
    have e : bulkF (p :: l) = p.1.size + p.2.size + 3 + bulkF l := by simp [bulkF]
    cases k with
    | zero => simp at hk; subst hk; simp only at e; exact ⟨by omega, by omega⟩
    | succ k => exact ih (by omega) (by simpa using hk)

theorem containsS_eq (zs : List ByteArray) (x : ByteArray) : Lib.containsS zs x = isIn zs x := by
  rw [Bool.eq_iff_iff, Lib.containsS_iff, isIn_iff]
theorem getD_str {zs : List ByteArray} {j : Nat} (h : j < zs.length) : (zs.map Value.string)[j]? = some (.string (zs.getD j ByteArray.empty)) := by
  rw [List.getElem?_map, List.getD_eq_getElem?_getD, List.getElem?_eq_getElem h]
  rfl
theorem Contains_any (A : Option Addr) (c : Nat) (zs : List ByteArray) (x : ByteArray) (w : World) (hr : Row w A (zs.map .string)) (hl : zs.length ≤ 1099511627776) :
    Calls Tryd.prog 98 #[.slice A zs.length c, .string x] w fun e w' => e = .returned (.bool (isIn zs x)) ∧ w = w' := by
  rcases Nat.eq_zero_or_pos zs.length with h0 | h0
  · obtain rfl : zs = [] := List.eq_nil_of_length_eq_zero h0
    exact (Tryd.slices_Contains_string_empty A c x w).mono fun e w' ⟨h1, h2⟩ => ⟨h1, h2.symm⟩
  · obtain ⟨b, off, rfl, hb, hc⟩ := hr (by rw [List.length_map]; exact h0)
    refine (Tryd.slices_Contains_string b off zs.length c zs x w (Nat.le_refl _) (by omega) (fun j hj => hc j _ (getD_str hj))).mono fun e w' ⟨h1, h2⟩ => ⟨?_, h2.symm⟩
    rw [h1, List.take_length, containsS_eq]

set_option maxRecDepth 20000 in
theorem rIn_any (A : Option Addr) (c : Nat) (zs : List ByteArray) (x : ByteArray) (w : World) (hr : Row w A (zs.map .string)) (hl : zs.length ≤ 1099511627776) :
    Calls Tryd.prog 95 #[.slice A zs.length c, .string x] w fun e w' => e = .returned (.bool (isIn zs x)) ∧ w = w' := by
  go_enter Tryd.func95, Tryd.ntmps95
  go_wp2
  go_loop [9] (fun i => ∃ k : Nat, k ≤ zs.length ∧ i = .int .i64 k ∧ ∀ (j : Nat) y, j < k → zs[j]? = some y → y ≠ x) (fun i => zs.length - (RowKit.intOf i).toNat)
  case atStart => exact ⟨0, by omega, rfl, fun j y h _ => by omega⟩
  case round =>
    obtain ⟨k, hk, rfl, hno⟩ := hrel
    have HN := Lib.hid hno
    clear hno
    by_cases hlt : k < zs.length
    · obtain ⟨y, hy⟩ := some_of_lt hlt
      obtain ⟨b, off, rfl, hb, h0⟩ := hr.str hy
      have HY := Lib.hid hy
      clear hy
      by_cases he : y = x
      · have hc : (y.toList == x.toList) = true := by rw [eq_str]; exact decide_eq_true he
        have HR := Lib.hid (show isIn zs x = true from isIn_iff.2 (he ▸ List.mem_of_getElem? HY.out))
        clear he
        go_wp2
        go_ret
        exact ⟨ret_bool HR.out.symm, rfl⟩
      · have hc : (y.toList == x.toList) = false := by rw [eq_str]; exact decide_eq_false he
        have HE := Lib.hid he
        clear he
        go_wp2
        go_round
        case rel => exact ⟨k + 1, by omega, by go_num, fun j z h hz => by
          by_cases e : j = k
          · subst e
            have := HY.out.symm.trans hz
            injection this with this
            rw [← this]
            exact HE.out
          · exact HN.out j z (by omega) hz⟩
        case measure => simp [RowKit.intOf]; omega
    · obtain rfl : k = zs.length := by omega
      have HR := Lib.hid (show isIn zs x = false by
        cases h : isIn zs x
        · rfl
        · have := isIn_iff.1 h
          obtain ⟨j, hj, he⟩ := List.getElem_of_mem this
          exact absurd he (HN.out j _ hj (List.getElem?_eq_getElem hj)))
      go_wp2
      go_ret
      exact ⟨ret_bool HR.out.symm, rfl⟩

set_option maxRecDepth 20000 in
set_option maxHeartbeats 1000000 in
theorem texts_any (A B : Option Addr) (c d : Nat) (l m : List ByteArray) (w : World) (hr : Row w A (l.map .string)) (hs : Row w B (m.map .string)) (hl : l.length ≤ 1099511627776) (_hm : m.length ≤ 1099511627776) :
    Calls Tryd.prog 43 #[.slice A l.length c, .slice B m.length d] w fun e w' => e = .returned (.bool (decide (l = m))) ∧ Below w.heap.size w w' := by
  by_cases hlen : l.length = m.length
  · have hne : ((l.length : Int) != (m.length : Int)) = false := by simp; omega
    have hml : m.length ≤ l.length := by omega
    have HL := Lib.hid hlen
    clear hlen
    go_enter Tryd.func43, Tryd.ntmps43
    go_wp2
    go_loopw [13] (fun i wr => ∃ (k q : Nat), k ≤ l.length ∧ i = .int .i64 k ∧ wr = w.drewN q ∧ l.take k = m.take k) (fun i _ => l.length - (RowKit.intOf i).toNat)
    case atStart => exact ⟨0, 0, by omega, rfl, rfl, rfl⟩
    case round =>
      obtain ⟨k, q, hk, rfl, rfl, htk⟩ := hrel
      have HT := Lib.hid htk
      clear htk
      by_cases hlt : k < l.length
      · obtain ⟨x, hxy⟩ := some_of_lt hlt
        obtain ⟨x', hxy'⟩ := some_of_lt (show k < m.length by have := HL.out; omega)
        obtain ⟨b, off, rfl, hb, h0⟩ := hr.str hxy
        obtain ⟨b', off', rfl, hb', h0'⟩ := hs.str hxy'
        have hkm : k < m.length := lt_of_some hxy'
        have HX := Lib.hid hxy
        have HX' := Lib.hid hxy'
        clear hxy hxy'
        have hki : (k : Int) < (l.length : Int) := by omega
        have hki' : (k : Int) < (m.length : Int) := by omega
        cases hx : (x.toList == x'.toList)
        · have hneq : ¬ l = m := fun e => by
            have h2 := HX.out
            rw [e, HX'.out] at h2
            injection h2 with h2
            rw [h2] at hx
            simp at hx
          have HN := Lib.hid hneq
          clear hneq
          go_wp2_with fail
          go_quiet (fail)
          go_wp2
          go_ret
          exact ⟨ret_bool (by rw [decide_eq_false HN.out]), below_drewN (below_drewN (Below.refl _ _) _) _⟩
        · have HE := Lib.hid (show x = x' by rw [of_decide_eq_true ((eq_str x x').symm.trans hx)])
          go_wp2_with fail
          go_quiet (fail)
          go_wp2
          go_roundw
          case rel => exact ⟨k + 1, _, by omega, by go_num, rfl, by rw [take_snoc HX.out, take_snoc HX'.out, HT.out, HE.out]⟩
          case measure => simp [RowKit.intOf]; omega
      · obtain rfl : k = l.length := by omega
        have he : l = m := by
          have := HT.out
          rw [List.take_length, HL.out, List.take_length] at this
          exact this
        have HE := Lib.hid he
        clear he
        go_wp2
        go_ret
        exact ⟨ret_bool (by rw [decide_eq_true HE.out]), (below_drewN (Below.refl _ _) _)⟩
  · have hne : ((l.length : Int) != (m.length : Int)) = true := by simp; omega
    have HN := Lib.hid (show ¬ l = m from fun e => hlen (by rw [e]))
    clear hlen
    go_enter Tryd.func43, Tryd.ntmps43
    go_wp2
    go_ret
    exact ⟨ret_bool (by rw [decide_eq_false HN.out]), Below.refl _ _⟩
theorem textss_any {A B : Option Addr} (c d : Nat) (l : List ByteArray) (w : World) (hr : Row w A (l.map .string)) (hs : Row w B (l.map .string)) (hl : l.length ≤ 1099511627776) :
    Calls Tryd.prog 43 #[.slice A l.length c, .slice B l.length d] w fun e w' => e = .returned (.bool true) ∧ Below w.heap.size w w' := by
  have hS := texts_any A B c d l l w hr hs hl hl
  rw [decide_eq_true rfl] at hS
  exact hS

/-! Values as one. -/
def joinR (vs : List ByteArray) : ByteArray := ⟨(Lib.join (vs.map (·.data.toList)) [44, 32]).toArray⟩
theorem joinR_len (vs : List ByteArray) : (Lib.join (vs.map (·.data.toList)) [44, 32]).length ≤ (vs.map (·.size)).sum + vs.length * 2 := by
  cases vs with
  | nil => exact Nat.le_refl _
  | cons x r =>
    rw [List.map_cons, Lib.join_length]
    have : ∀ l : List ByteArray, Lib.lens (l.map (·.data.toList)) = (l.map (·.size)).sum := by
      intro l
      induction l with
      | nil => rfl
      | cons y l ih => simp [Lib.lens, ← ih]
    rw [← List.map_cons (f := fun x : ByteArray => x.data.toList), this]
    simp
    omega
theorem joinR_zero (vs : List ByteArray) : joinR (vs.take 0) = ⟨#[]⟩ := rfl
theorem joinR_first {vs : List ByteArray} {v : ByteArray} (h : vs[0]? = some v) : joinR (vs.take (0 + 1)) = v := by
  cases vs with
  | nil => simp at h
  | cons x r =>
    simp at h
    subst h
    unfold joinR
    simp [Lib.join_one]
theorem joinR_next {vs : List ByteArray} {k : Nat} {v : ByteArray} (hk : 0 < k) (h : vs[k]? = some v) : joinR (vs.take (k + 1)) = joinR (vs.take k) ++ ⟨#[44, 32]⟩ ++ v := by
  cases vs with
  | nil => simp at h
  | cons x r =>
    obtain ⟨j, rfl⟩ : ∃ j, k = j + 1 := ⟨k - 1, by omega⟩
    have h' : (r.map (·.data.toList))[j]? = some v.data.toList := by rw [List.getElem?_map]; simp at h; rw [h]; rfl
    apply bytes_ext
    unfold joinR
    simp only [List.take_succ_cons, List.map_cons, Lib.join_cons, List.map_take, Lib.joinTail_take_succ _ _ _ _ h']
    simp
theorem joinR_empty (vs : List ByteArray) (k : Nat) : (joinR (vs.take k)).size ≤ (vs.map (·.size)).sum + vs.length * 2 := by
  have h := joinR_len (vs.take k)
  have h2 : ∀ l : List ByteArray, ((l.take k).map (·.size)).sum ≤ (l.map (·.size)).sum := by
    intro l
    induction l generalizing k with
    | nil => simp
    | cons x l ih =>
      cases k with
      | zero => simp
      | succ k => simp only [List.take_succ_cons, List.map_cons, List.sum_cons]; have := ih k (joinR_len _); omega
  have h3 := h2 vs
  have h4 : (vs.take k).length ≤ vs.length := by rw [List.length_take]; omega
  have h5 : (joinR (vs.take k)).size = (Lib.join ((vs.take k).map (·.data.toList)) [44, 32]).length := by rw [← size_eq]; rfl
  omega
set_option maxRecDepth 20000 in
theorem Join_any (A : Option Addr) (c : Nat) (zs : List ByteArray) (w : World) (hr : Row w A (zs.map .string)) (hc : zs.length ≤ c) (hl : (zs.map (·.size)).sum + zs.length * 3 ≤ 1099511627776) :
    Calls Tryd.prog 94 #[.slice A zs.length c] w fun e w' => e = .returned (.string (joinR zs)) ∧ Below w.heap.size w w' := by
  rcases Nat.eq_zero_or_pos zs.length with h0 | h0
  · obtain rfl : zs = [] := List.eq_nil_of_length_eq_zero h0
    have hJ := Lib.hid (Tryd.strings_Join_none A c ⟨#[44, 32]⟩ w)
    go_enter Tryd.func94, Tryd.ntmps94
    go_wp2_with fail
    refine hJ.out.mono ?_
    rintro e w1 ⟨rfl, rfl⟩
    go_wp2
    go_ret
    exact ⟨rfl, Below.refl _ _⟩
  · obtain ⟨b, off, rfl, hb, hcell⟩ := hr (by rw [List.length_map]; exact h0)
    have hlen := joinR_len zs
    have hJ := Lib.hid (Tryd.strings_Join b off c zs ⟨#[44, 32]⟩ w (fun j x hx => hcell j _ (by rw [List.getElem?_map, hx]; rfl)) hb (by omega) hc (by show (Lib.join _ [44, 32]).length ≤ _; omega))
    go_enter Tryd.func94, Tryd.ntmps94
    go_wp2_with fail
    refine hJ.out.mono ?_
    rintro e w1 ⟨rfl, hb1⟩
    go_wp2
    go_ret
    exact ⟨rfl, hb1⟩
set_option maxRecDepth 20000 in
theorem Joined_any (A : Option Addr) (c : Nat) (l : List Fl) (name : ByteArray) (w : World) (hr : Row w A (flat l)) (hk : bulkF l ≤ 1048576) (hn : name.size ≤ maxLen) :
    Calls Tryd.prog 48 #[.slice A l.length c, .string name] w fun e w' => e = .returned (.tuple #[.string (joinR (allV l name)), .bool (decide (0 < (allV l name).length))]) ∧ Below w.heap.size w w' := by
  have hbl := bulk_len l
  have hba := bulk_all l name
  have HA := Lib.hid (All_any A c l name w hr (by omega) (bulk_wide hk) hn)
  generalize allV l name = vs at *
  go_enter Tryd.func48, Tryd.ntmps48
  go_wp2_with fail
  refine HA.out.mono ?_
  rintro e w1 ⟨A1, c1, rfl, hown, hb⟩
  have hcap := own_cap hown
  have hrow := own_row hown
  clear hown
  go_wp2_with fail
  refine (Join_any A1 c1 vs w1 hrow hcap (by omega)).mono ?_
  rintro e w2 ⟨rfl, hb2⟩
  rcases Nat.eq_zero_or_pos vs.length with h0 | h0
  · have hd : decide ((0 : Int) < (vs.length : Int)) = false := decide_eq_false (by omega)
    have HD := Lib.hid (show decide (0 < vs.length) = false from decide_eq_false (by omega))
    clear h0
    go_wp2
    go_ret2
    exact ⟨by first | rfl | (rw [HD.out]; rfl), hb.trans (hb2.mono hb.size)⟩
  · have hd : decide ((0 : Int) < (vs.length : Int)) = true := decide_eq_true (by omega)
    have HD := Lib.hid (show decide (0 < vs.length) = true from decide_eq_true (by omega))
    go_wp2
    go_ret2
    exact ⟨by first | rfl | (rw [HD.out]; rfl), hb.trans (hb2.mono hb.size)⟩
set_option maxRecDepth 20000 in
set_option maxHeartbeats 1000000 in
theorem rJoined_any (A : Option Addr) (c : Nat) (l : List Fl) (name : ByteArray) (w : World) (hr : Row w A (flat l)) (hk : bulkF l ≤ 1048576) (hn : name.size ≤ maxLen) :
    Calls Tryd.prog 57 #[.slice A l.length c, .string name] w fun e w' => e = .returned (.tuple #[.string (joinR (allV l name)), .bool (decide (0 < (allV l name).length))]) ∧ Below w.heap.size w w' := by
  have hbl := bulk_len l
  have hba := bulk_all l name
  have HA := Lib.hid (rAll_any A c l name w hr (by omega) (bulk_wide hk) hn)
  generalize allV l name = vs at *
  go_enter Tryd.func57, Tryd.ntmps57
  go_wp2_with fail
  refine HA.out.mono ?_
  rintro e w1 ⟨A1, c1, rfl, hown, hb⟩
  have hrow := own_row hown
  clear hown
  go_wp2
  go_loop [7, 15] (fun v i => ∃ k : Nat, k ≤ vs.length ∧ i = .int .i64 k ∧ v = .string (joinR (vs.take k))) (fun _ i => vs.length - (RowKit.intOf i).toNat)
  case atStart => exact ⟨0, by omega, rfl, rfl⟩
  case round =>
    obtain ⟨k, hkk, rfl, rfl⟩ := hrel
    by_cases hlt : k < vs.length
    · obtain ⟨x, hx⟩ := some_of_lt hlt
      obtain ⟨b, off, rfl, hb, h0⟩ := hrow.str hx
      rcases Nat.eq_zero_or_pos k with h1 | h1
      · subst h1
        have HJ := Lib.hid (joinR_first hx)
        have HZ := Lib.hid (joinR_zero vs)
        rw [Nat.add_zero] at h0
        have hz : (joinR []).size ≤ 0 := by decide
        have hxs : x.size ≤ (vs.map (·.size)).sum := size_le_sum (List.mem_of_getElem? hx)
        have HJ0 := Lib.hid (show joinR [] ++ x = joinR (vs.take 1) from HJ.out ▸ bytes_ext rfl)
        clear hx
        go_wp2
        go_round
        case rel => exact ⟨1, by omega, by go_num, by rw [← HJ0.out]⟩
        case measure => simp [RowKit.intOf]; omega
      · have HJ := Lib.hid (joinR_next h1 hx)
        have hsz := joinR_empty vs k
        have hxs : x.size ≤ (vs.map (·.size)).sum := size_le_sum (List.mem_of_getElem? hx)
        clear hx
        go_wp2
        go_round
        case rel => exact ⟨k + 1, by omega, by go_num, by rw [HJ.out]⟩
        case measure => simp [RowKit.intOf]; omega
    · obtain rfl : k = vs.length := by omega
      have HT := Lib.hid (List.take_length (l := vs))
      rcases Nat.eq_zero_or_pos vs.length with h0 | h0
      · have hd : decide ((0 : Int) < (vs.length : Int)) = false := decide_eq_false (by omega)
        have HD := Lib.hid (show decide (0 < vs.length) = false from decide_eq_false (by omega))
        clear h0
        go_wp2
        go_ret2
        exact ⟨by first | rfl | (rw [HD.out]; rfl) | (rw [HD.out, HT.out]; rfl), hb⟩
      · have hd : decide ((0 : Int) < (vs.length : Int)) = true := decide_eq_true (by omega)
        have HD := Lib.hid (show decide (0 < vs.length) = true from decide_eq_true (by omega))
        go_wp2
        go_ret2
        exact ⟨by first | rfl | (rw [HD.out]; rfl) | (rw [HD.out, HT.out]; rfl), hb⟩
end Go.Proofs.YtamagbdkcfmfmaaDoor
