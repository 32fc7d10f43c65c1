/-
  Pairs as a query: plain words, and the walks of the program and of the reference.
-/
import Derived.Test.YtjlnbjlhlglneaaDoorTgQ
import Derived.Test.YtjlnbjlhlglneaaDoorTgPs
import Derived.Test.YtjlnbjlhlglneaaDoorTgJo
import Derived.Test.YtjlnbjlhlglneaaDoorTgEn
import Derived.Test.YtjlnbjlhlglneaaDoorTgAw
namespace Go.Proofs.YtjlnbjlhlglneaaDoor
open Go.RowKit Go.Shelf Go.Lib

def sumP (l : List Pr) : Nat := (l.map fun p => p.1.size + p.2.1.size + 4).sum
theorem sumP_mem {l : List Pr} {p : Pr} (h : p ∈ l) : p.1.size + p.2.1.size + 4 ≤ sumP l := by
  induction l with
  | nil => cases h
  | cons q l ih =>
    have e : sumP (q :: l) = q.1.size + q.2.1.size + 4 + sumP l := by simp [sumP]
    rw [e]
    rcases List.mem_cons.1 h with rfl | h
    · omega
    · have := ih h
      omega
theorem one_size (p : Pr) : (oneT p).size ≤ 3 * (p.1.size + p.2.1.size) + 1 := by
  rw [← size_eq]
  show (printOne p).length ≤ _
  unfold printOne
  have h1 := enc_size p.1
  have h2 := enc_size p.2.1
  rw [List.length_append, size_eq]
  split
  · rw [List.length_cons, size_eq]; omega
  · rw [List.length_nil]; omega
theorem one_sum (l : List Pr) : sumS (l.map oneT) + l.length ≤ 3 * sumP l := by
  induction l with
  | nil => exact Nat.zero_le _
  | cons p l ih =>
    have e : sumP (p :: l) = p.1.size + p.2.1.size + 4 + sumP l := by simp [sumP]
    rw [List.map_cons, sumS_cons, List.length_cons, e]
    have := one_size p
    omega
theorem bad_none {l : List Pr} (h : ∀ (k : Nat) (p : Pr), l[k]? = some p → badPair p = false) : l.any badPair = false := by
  rw [List.any_eq_false]
  intro p hp
  obtain ⟨k, hk⟩ := List.getElem?_of_mem hp
  rw [h k p hk]
  simp
theorem bad_some {l : List Pr} {k : Nat} {p : Pr} (hk : l[k]? = some p) (h : badPair p = true) : l.any badPair = true := List.any_eq_true.2 ⟨p, List.mem_of_getElem? hk, h⟩
theorem printQ_bad {l : List Pr} (h : l.any badPair = true) : printQ l = (⟨#[]⟩, 54) := if_pos h
theorem printQ_good {l : List Pr} (h : l.any badPair = false) : printQ l = (⟨(Lib.join (l.map printOne) [38]).toArray⟩, 0) := if_neg (by rw [h]; simp)
def pqVal (l : List Pr) : Value := .tuple #[.string (printQ l).1, .int .i64 (printQ l).2]
def oneRow (l : List Pr) (k : Nat) : List Value := ((l.take k).map oneT).map .string
theorem oneRow_succ {l : List Pr} {k : Nat} {p : Pr} (h : l[k]? = some p) : oneRow l (k + 1) = oneRow l k ++ [.string (oneT p)] := by unfold oneRow; rw [take_snoc h, List.map_append, List.map_append]; rfl
theorem oneRow_all (l : List Pr) : oneRow l l.length = (l.map oneT).map .string := by unfold oneRow; rw [List.take_length]
theorem Join_at {w : World} {base c : Nat} {A : Option Addr} {l : List ByteArray} {s : UInt8} (h : w.ownsRow base 9 1 (.slice A l.length c) l.length (l.map .string)) (hne : l ≠ []) (hl : (Lib.join (l.map (·.data.toList)) [s]).length ≤ 140737488355328) (hn : l.length ≤ 140737488355328) :
    Calls Tryd.prog 60 #[.slice A l.length c, .string ⟨#[s]⟩] w fun e w' => e = .returned (.string ⟨(Lib.join (l.map (·.data.toList)) [s]).toArray⟩) ∧ Below w.heap.size w w' := by
  have hpos := List.length_pos_iff.2 hne
  obtain ⟨x, hx⟩ := some_of_lt hpos
  obtain ⟨b, off, rfl, hb, _⟩ := (own_row h).str hx
  have hcells : ∀ (j : Nat) x, l[j]? = some x → w.cell? ⟨b, off + j, none⟩ = some (.string x) := fun j x hj => by
    obtain ⟨b', off', he, _, hc⟩ := (own_row h).str hj
    injection he with he
    injection he with h1 h2
    subst h1 h2
    exact hc
  exact Tryd.strings_Join b off c l ⟨#[s]⟩ w hcells hb hn (own_cap h) hl
theorem join_amp : ∀ (l : List ByteArray), (Lib.join (l.map (·.data.toList)) [38]).length ≤ sumS l + l.length
  | [] => Nat.zero_le _
  | [x] => by simp [Lib.join, List.intercalate, sumS]
  | x :: y :: r => by
    have ih := join_amp (y :: r)
    have e : Lib.join ((x :: y :: r).map (·.data.toList)) [38] = x.data.toList ++ ([38] ++ Lib.join ((y :: r).map (·.data.toList)) [38]) := by simp [Lib.join, List.intercalate]
    rw [e, List.length_append, List.length_append, size_eq, sumS_cons, List.length_cons, List.length_cons]
    rw [List.length_cons] at ih
    simp only [List.length_cons, List.length_nil]
    omega
def BadNo (l : List Pr) (k : Nat) : Prop := ∀ (j : Nat) (p : Pr), j < k → l[j]? = some p → badPair p = false
theorem BadNo.zero (l : List Pr) : BadNo l 0 := fun _ _ h => by omega
theorem BadNo.succ {l : List Pr} {k : Nat} {p : Pr} (h : BadNo l k) (hk : l[k]? = some p) (hb : badPair p = false) : BadNo l (k + 1) := fun j q hj hq => by
  by_cases e : j = k
  · subst e
    rw [hk] at hq
    cases hq
    exact hb
  · exact h j q (by omega) hq
theorem BadNo.all {l : List Pr} (h : BadNo l l.length) : l.any badPair = false := bad_none fun k p hk => h k p (lt_of_some hk) hk
theorem pq_bad {l : List Pr} {k : Nat} {p : Pr} (hk : l[k]? = some p) (h : badPair p = true) : pqVal l = .tuple #[.string ⟨#[]⟩, .int .i64 54] := by unfold pqVal; rw [printQ_bad (bad_some hk h)]
theorem pq_good {l : List Pr} (h : l.any badPair = false) : pqVal l = .tuple #[.string ⟨(Lib.join (l.map printOne) [38]).toArray⟩, .int .i64 0] := by unfold pqVal; rw [printQ_good h]
theorem one_yes (x y : ByteArray) : enc x ++ ((⟨#[61]⟩ : ByteArray) ++ enc y) = oneT (x, y, true) := mk_eq (by
  rw [add_data', add_data']
  show _ = (enc x).data.toList ++ (if true = true then _ else [])
  simp)
theorem one_no (x y : ByteArray) : enc x = oneT (x, y, false) := mk_eq (by
  show _ = (enc x).data.toList ++ (if false = true then _ else [])
  simp)
set_option maxRecDepth 20000 in
set_option maxHeartbeats 4000000 in
theorem known_any (A : Option Addr) (c : Nat) (l : List Pr) (w : World) (hr : Row w A (flat3 l)) (hl : l.length ≤ 1048576) :
    Calls Tryd.prog 26 #[.slice A l.length c] w (GivesPr 94 w l) := by
  obtain ⟨i0, hi0, hz0, hz1, hz2⟩ := info_parts info_rparam
  go_enter Tryd.func26, Tryd.ntmps26
  go_wp2
  go_loopw [3, 4] (fun v i wr => ∃ k : Nat, k ≤ l.length ∧ i = .int .i64 k ∧ wr.ownsRow w.heap.size 94 3 v k (flat3 (l.take k)) ∧ Below w.heap.size w wr) (fun _ i _ => l.length - (RowKit.intOf i).toNat)
  case atStart => exact ⟨0, by omega, rfl, World.ownsRow_lit w #[] 0 (Nat.le_refl _) (by unfold maxLen; omega) rfl, (Below.refl _ w).alloc (Nat.le_refl _) _⟩
  case round =>
    obtain ⟨k, hk, rfl, hown, hbw⟩ := hrel
    by_cases hlt : k < l.length
    · obtain ⟨⟨x, y, z⟩, hx⟩ := some_of_lt hlt
      obtain ⟨b, off, rfl, hb, g0, g1, g2⟩ := hr.trip hx
      have h0 : wr.cell? ⟨b, off + k * 3, none⟩ = some (.string x) := (hbw.cell (p := ⟨b, off + k * 3, none⟩) hb).trans g0
      have h1 : wr.cell? ⟨b, off + k * 3 + 1, none⟩ = some (.string y) := (hbw.cell (p := ⟨b, off + k * 3 + 1, none⟩) hb).trans g1
      have h2 : wr.cell? ⟨b, off + k * 3 + 2, none⟩ = some (.bool z) := (hbw.cell (p := ⟨b, off + k * 3 + 2, none⟩) hb).trans g2
      have HS := Lib.hid (take_snoc hx)
      have hbr : b < wr.heap.size := Nat.lt_of_lt_of_le hb hbw.size
      have HB := Lib.hid (fun (w' : World) (h : Below w.heap.size wr w') => (⟨(h.cell (p := ⟨b, off + k * 3, none⟩) hb).trans h0, (h.cell (p := ⟨b, off + k * 3 + 1, none⟩) hb).trans h1, (h.cell (p := ⟨b, off + k * 3 + 2, none⟩) hb).trans h2⟩ : w'.cell? ⟨b, off + k * 3, none⟩ = some (.string x) ∧ w'.cell? ⟨b, off + k * 3 + 1, none⟩ = some (.string y) ∧ w'.cell? ⟨b, off + k * 3 + 2, none⟩ = some (.bool z)))
      clear hx g0 g1 g2
      have hws := hbw.size
      go_wp2_with fail
      go_region_held3 (fun w' => w'.cell? ⟨b, off + k * 3, none⟩ = some (.string x) ∧ w'.cell? ⟨b, off + k * 3 + 1, none⟩ = some (.string y) ∧ w'.cell? ⟨b, off + k * 3 + 2, none⟩ = some (.bool z)) (first | exact HB.out _ hbB | assumption | go_keep) ((refine step_append_any _ rfl (.tmp 12) (.tmp 29) 49 rfl w.heap.size 94 i0 (.agg #[.string ⟨#[]⟩, .string ⟨#[]⟩, .bool false]) 3 40 Tryd.underlying49 hi0 hz0 hz1 hz2 rfl (by decide) _ _ _ (by rfl) ((World.ownsRow.drew hown).alloc _) _ (some ⟨wr.heap.size, 0, none⟩) 1 1 (flat3 [(x, y, z)]) (by rfl) (reads_of_row ((row_newc _ _ _ rfl).drew) rfl (by decide)) (flat3_oneCell _) (by unfold maxLen; omega) (by omega) (by simp; omega) ?_; intro v' w2 hown2 hg2 _; have hbB : Below w.heap.size wr w2 := (below_drew ((Below.refl w.heap.size wr).alloc hws _)).grown hg2 (by simp; omega) (own_lt hown)))
      all_goals
        have ho2 : w2.ownsRow w.heap.size 94 3 v' (k + 1) (flat3 (l.take (k + 1))) := by
          rw [HS.out, flat3_append]
          exact hown2
        have hbw2 := hbw.trans hbB
        clear hown2 hg2 hown hbB h0 h1 h2
        go_wp2
        go_roundw
        case rel => exact ⟨k + 1, by omega, by go_num, ho2, hbw2⟩
        case measure => simp [RowKit.intOf]; omega
    · obtain rfl : k = l.length := by omega
      rw [List.take_length] at hown
      go_wp2
      go_ret
      exact gives_pr hown hbw
set_option maxRecDepth 20000 in
set_option maxHeartbeats 8000000 in
theorem PrintQuery_any (A : Option Addr) (c : Nat) (l : List Pr) (w : World) (hr : Row w A (flat3 l)) (hz : sumP l ≤ 1048576) (hl : l.length ≤ 1048576) :
    Calls Tryd.prog 27 #[.slice A l.length c] w fun e w' => e = .returned (pqVal l) ∧ Below w.heap.size w w' := by
  obtain ⟨i0, hi0, hz0, hz1, hz2⟩ := info_parts info_string
  have hsz := Lib.hid (fun p (hp : p ∈ l) => sumP_mem hp)
  have hos := one_sum l
  go_enter Tryd.func27, Tryd.ntmps27
  go_wp2
  go_loopw [4, 10] (fun v i wr => ∃ k : Nat, k ≤ l.length ∧ i = .int .i64 k ∧ BadNo l k ∧ wr.ownsRow w.heap.size 9 1 v k (oneRow l k) ∧ Below w.heap.size w wr) (fun _ i _ => l.length - (RowKit.intOf i).toNat)
  case atStart => exact ⟨0, by omega, rfl, BadNo.zero l, World.ownsRow_nil _ _ _ _, Below.refl _ _⟩
  case round =>
    obtain ⟨k, hk, rfl, hbn, hown, hbw⟩ := hrel
    have HBN := Lib.hid hbn
    clear hbn
    by_cases hlt : k < l.length
    · obtain ⟨⟨x, y, z⟩, hx⟩ := some_of_lt hlt
      obtain ⟨b, off, rfl, hb, g0, g1, g2⟩ := hr.trip hx
      have h0 : wr.cell? ⟨b, off + k * 3, none⟩ = some (.string x) := (hbw.cell (p := ⟨b, off + k * 3, none⟩) hb).trans g0
      have h1 : wr.cell? ⟨b, off + k * 3 + 1, none⟩ = some (.string y) := (hbw.cell (p := ⟨b, off + k * 3 + 1, none⟩) hb).trans g1
      have h2 : wr.cell? ⟨b, off + k * 3 + 2, none⟩ = some (.bool z) := (hbw.cell (p := ⟨b, off + k * 3 + 2, none⟩) hb).trans g2
      have hxz := hsz.out _ (List.mem_of_getElem? hx)
      dsimp only at hxz
      have HX := Lib.hid hx
      clear hx g0 g1 g2
      cases z
      · by_cases hy : y.size = 0
        · have hye : y.toList.isEmpty = true := by rw [empty_eq]; exact decide_eq_true hy
          by_cases hxe : x.size = 0
          · have hxe' : x.toList.isEmpty = true := by rw [empty_eq]; exact decide_eq_true hxe
            have HQ := Lib.hid (pq_bad HX.out (by unfold badPair; rw [decide_eq_true hxe]; simp))
            clear hy hxe
            go_wp2
            go_ret2
            exact ⟨by rw [HQ.out]; rfl, hbw.alloc hbw.size _⟩
          · have hxe' : x.toList.isEmpty = false := by rw [empty_eq]; exact decide_eq_false hxe
            have hgood : badPair (x, y, false) = false := by unfold badPair; rw [decide_eq_true hy, decide_eq_false hxe]; rfl
            have HG := Lib.hid (HBN.out.succ HX.out hgood)
            have HT := Lib.hid (oneRow_succ HX.out)
            have HE := Lib.hid (fun w => Encode_any x w (by omega))
            rw [one_no x y] at HE
            generalize oneT (x, y, false) = s at *
            clear hy hxe hgood
            go_wp2_with fail
            refine (HE.out _).mono ?_
            rintro e w1 ⟨rfl, b1⟩
            have b1' : Below (wr.heap.size + 1) (wr.alloc (.cells #[.string x, .string y, .bool false] 93)) w1 := by simpa using b1
            obtain ⟨c2, _⟩ := box6 b1' 2
            have hown1 := own_below (hown.alloc _) b1
            have hbw1 := hbw.trans ((below_box b1').mono hbw.size)
            clear b1 b1' hown
            go_wp2_with (at_builtin; refine wpList_append_own _ rfl _ _ 42 rfl w.heap.size 9 i0 (.string ⟨#[]⟩) 1 16 Tryd.underlying42 hi0 hz0 hz1 hz2 rfl (by decide) _ _ _ rfl (hown1.alloc _) ⟨w1.heap.size, 0, none⟩ 1 1 [.string s] rfl rfl (cell_one_new _ _ _) ?c1 ?c2 ?c3 ?c4 ?c5)
            case c1 => exact strs_oneCell [_]
            case c2 => unfold maxLen; omega
            case c3 => omega
            case c4 => simp; have := hbw1.size; omega
            case c5 =>
              intro v' w2 hown2 hg2 _
              have hb2 : Below w.heap.size w w2 := (hbw1.alloc hbw1.size _).grown hg2 (by simp; have := hbw1.size; omega) (own_lt hown1)
              have ho2 : w2.ownsRow w.heap.size 9 1 v' (k + 1) (oneRow l (k + 1)) := by
                rw [HT.out]
                exact hown2
              clear hown2 hg2 hown1
              go_wp2
              go_roundw
              case rel => exact ⟨k + 1, by omega, by go_num, HG.out, ho2, hb2⟩
              case measure => simp [RowKit.intOf]; omega
        · have hye : y.toList.isEmpty = false := by rw [empty_eq]; exact decide_eq_false hy
          have HQ := Lib.hid (pq_bad HX.out (by unfold badPair; rw [decide_eq_false hy]; rfl))
          clear hy
          go_wp2
          go_ret2
          exact ⟨by rw [HQ.out]; rfl, hbw.alloc hbw.size _⟩
      · have hgood : badPair (x, y, true) = false := rfl
        have HG := Lib.hid (HBN.out.succ HX.out hgood)
        have HT := Lib.hid (oneRow_succ HX.out)
        have HE := Lib.hid (fun w => Encode_any x w (by omega))
        have HF := Lib.hid (fun w => Encode_any y w (by omega))
        have HO := Lib.hid (one_yes x y)
        have hex := enc_size x
        have hey := enc_size y
        have zx : (enc x).size ≤ 4194304 := by omega
        have zy : (enc y).size ≤ 4194304 := by omega
        clear hex hey hgood
        generalize enc x = ex at *
        generalize enc y = ey at *
        generalize oneT (x, y, true) = s at *
        go_wp2_with fail
        refine (HE.out _).mono ?_
        rintro e w1 ⟨rfl, b1⟩
        have b1' : Below (wr.heap.size + 1) (wr.alloc (.cells #[.string x, .string y, .bool true] 93)) w1 := by simpa using b1
        obtain ⟨c1, _⟩ := box6 b1' 1
        obtain ⟨c2, _⟩ := box6 b1' 2
        have hown1 := own_below (hown.alloc _) b1
        have hbw1 := hbw.trans ((below_box b1').mono hbw.size)
        clear b1 b1' hown
        go_wp2_with fail
        refine (HF.out _).mono ?_
        rintro e w3 ⟨rfl, b3⟩
        have hown3 := own_below hown1 b3
        have hbw3 := hbw1.trans (b3.mono hbw1.size)
        clear b3 hown1 hbw1 c1 c2
        go_wp2_with (at_builtin; refine wpList_append_own _ rfl _ _ 42 rfl w.heap.size 9 i0 (.string ⟨#[]⟩) 1 16 Tryd.underlying42 hi0 hz0 hz1 hz2 rfl (by decide) _ _ _ rfl (hown3.alloc _) ⟨w3.heap.size, 0, none⟩ 1 1 [.string (ex ++ ((⟨#[61]⟩ : ByteArray) ++ ey))] rfl rfl (cell_one_new _ _ _) ?c1 ?c2 ?c3 ?c4 ?c5)
        case c1 => exact strs_oneCell [_]
        case c2 => unfold maxLen; omega
        case c3 => omega
        case c4 => simp; have := hbw3.size; omega
        case c5 =>
          intro v' w2 hown2 hg2 _
          have hb2 : Below w.heap.size w w2 := (hbw3.alloc hbw3.size _).grown hg2 (by simp; have := hbw3.size; omega) (own_lt hown3)
          have ho2 : w2.ownsRow w.heap.size 9 1 v' (k + 1) (oneRow l (k + 1)) := by
            rw [HT.out, ← HO.out]
            exact hown2
          clear hown2 hg2 hown3
          go_wp2
          go_roundw
          case rel => exact ⟨k + 1, by omega, by go_num, HG.out, ho2, hb2⟩
          case measure => simp [RowKit.intOf]; omega
    · obtain rfl : k = l.length := by omega
      rw [oneRow_all] at hown
      have HQ := Lib.hid (pq_good HBN.out.all)
      obtain ⟨A', c', rfl⟩ := own_slice hown
      by_cases hn : l = []
      · subst hn
        have HJ := Lib.hid (fun w => Tryd.strings_Join_none A' c' ⟨#[38]⟩ w)
        go_wp2_with fail
        refine (HJ.out _).mono ?_
        rintro e w1 ⟨rfl, rfl⟩
        go_wp2
        go_ret2
        exact ⟨by rw [HQ.out]; rfl, hbw⟩
      · have hm : l.map oneT ≠ [] := by simpa using hn
        have hml : (l.map oneT).length = l.length := List.length_map _
        have hjl := join_amp (l.map oneT)
        have HJ0 := Join_at (s := 38) (l := l.map oneT) (A := A') (c := c') (base := w.heap.size) (w := wr) (by rw [hml]; exact hown) hm (by omega) (by omega)
        rw [hml] at HJ0
        rw [show (l.map oneT).map (·.data.toList) = l.map printOne by rw [List.map_map]; rfl] at HJ0
        have HJ := Lib.hid HJ0
        clear HJ0 hjl
        generalize (⟨(Lib.join (l.map printOne) [38]).toArray⟩ : ByteArray) = js at *
        go_wp2_with fail
        refine HJ.out.mono ?_
        rintro e w1 ⟨rfl, b1⟩
        go_wp2
        go_ret2
        exact ⟨by rw [HQ.out]; rfl, hbw.trans (b1.mono hbw.size)⟩
end Go.Proofs.YtjlnbjlhlglneaaDoor
