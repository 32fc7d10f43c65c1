/-
  The walk of FieldApart.
-/
import Derived.Test.YtamagbdkcfmfmaaDoorToks
import Derived.Test.YtamagbdkcfmfmaaDoorLawTurns
namespace Go.Proofs.YtamagbdkcfmfmaaDoor
open Go.RowKit Go.Shelf Go.Lib

/-! Two rows that both grow. -/
def Apart (v u : Value) : Prop := ∀ k, v.ownBlock = some k → u.ownBlock ≠ some k
theorem Apart.symm {v u : Value} (h : Apart v u) : Apart u v := fun k hk e => h k e hk
theorem Apart.grow {v v' u : Value} {n : Nat} (ha : Apart v u) (hat : v'.ownBlock = v.ownBlock ∨ v'.ownBlock = some n) (hu : ∀ k, u.ownBlock = some k → k < n) : Apart v' u := fun k hk e => by
  rcases hat with h | h
  · exact ha k (h ▸ hk) e
  · rw [h] at hk
    injection hk with hk
    have := hu k e
    omega
section
variable {w w' : World} {base : Nat} {e : TypeId} {size n : Nat} {v u : Value} {xs : List Value}
theorem own_other (h : w.ownsRow base e size v n xs) (hg : w.grownBy w' u.ownBlock) (ha : Apart u v) : w'.ownsRow base e size v n xs := h.kept hg (by
  cases hv : v.ownBlock with
  | none => exact .inl rfl
  | some k => exact .inr (fun e => ha k e.symm hv))
theorem own_blt (h : w.ownsRow base e size v n xs) : ∀ k, v.ownBlock = some k → k < w.heap.size := fun k hk => (h.lt k hk).2
end
theorem box_kept {wr w2 : World} {x y : Value} {t : TypeId} {o : Obj} {row : Option Nat} (hg : ((wr.alloc (.cells #[x, y] t)).alloc o).grownBy w2 row) (hr : ∀ k, row = some k → k < wr.heap.size) :
    w2.cell? ⟨wr.heap.size, 0, none⟩ = some x ∧ w2.cell? ⟨wr.heap.size, 1, none⟩ = some y ∧ wr.heap.size + 1 < w2.heap.size := by
  have hb := hg.block wr.heap.size (by simp; omega) (fun e => by have := hr _ e.symm; omega)
  have hz := hg.size
  simp at hz
  refine ⟨?_, ?_, by omega⟩
  · rw [World.cell?_of_block (a := ⟨wr.heap.size, 0, none⟩) hb, World.cell?_alloc_lt _ _ _ (by simp)]; simp
  · rw [World.cell?_of_block (a := ⟨wr.heap.size, 1, none⟩) hb, World.cell?_alloc_lt _ _ _ (by simp)]; simp
theorem box_kept1 {w1 w2 : World} {b : Nat} {x y : Value} {o : Obj} {row : Option Nat} (h : w1.cell? ⟨b, 0, none⟩ = some x ∧ w1.cell? ⟨b, 1, none⟩ = some y ∧ b < w1.heap.size) (hg : (w1.alloc o).grownBy w2 row) (hr : ∀ k, row = some k → k ≠ b) :
    w2.cell? ⟨b, 0, none⟩ = some x ∧ w2.cell? ⟨b, 1, none⟩ = some y ∧ b < w2.heap.size := by
  obtain ⟨h0, h1, hb'⟩ := h
  have hb := hg.block b (by simp; omega) (fun e => hr _ e.symm rfl)
  have hz := hg.size
  simp at hz
  refine ⟨?_, ?_, by omega⟩
  · rw [World.cell?_of_block (a := ⟨b, 0, none⟩) hb, World.cell?_alloc_lt _ _ _ (by simp; omega)]; exact h0
  · rw [World.cell?_of_block (a := ⟨b, 1, none⟩) hb, World.cell?_alloc_lt _ _ _ (by simp; omega)]; exact h1

/-- The list with others' fields of other names put in. -/
def mixA (l others : List Fl) (name : ByteArray) : Nat → List Fl
  | 0 => []
  | k + 1 => match l[k]? with
    | none => mixA l others name k
    | some p => mixA l others name k ++ p :: (match others[k]? with
      | none => []
      | some q => if alike q.1 name = true then [] else [q])
section
variable {l others : List Fl} {name : ByteArray} {k : Nat} {p q : Fl}
theorem mixA_none (h : l[k]? = some p) (hq : others[k]? = none) : mixA l others name (k + 1) = mixA l others name k ++ [p] := by
  simp only [mixA, h, hq]
theorem mixA_same (h : l[k]? = some p) (hq : others[k]? = some q) (ha : alike q.1 name = true) : mixA l others name (k + 1) = mixA l others name k ++ [p] := by
  simp only [mixA, h, hq]
  rw [if_pos ha]
theorem mixA_more (h : l[k]? = some p) (hq : others[k]? = some q) (ha : alike q.1 name = false) : mixA l others name (k + 1) = mixA l others name k ++ [p] ++ [q] := by
  simp only [mixA, h, hq]
  rw [if_neg (by rw [ha]; simp)]
  simp
theorem allV_append (a b : List Fl) : allV (a ++ b) name = allV a name ++ allV b name := by simp [allV]
theorem mixA_all (l others : List Fl) (name : ByteArray) : ∀ k, k ≤ l.length → allV (mixA l others name k) name = allV (l.take k) name
  | 0, _ => by simp [mixA]
  | k + 1, hk => by
    obtain ⟨p, hp⟩ := some_of_lt (show k < l.length by omega)
    have ih := mixA_all l others name k (by omega)
    rw [take_snoc hp, allV_append]
    cases hq : others[k]? with
    | none => rw [mixA_none hp hq, allV_append, ih]
    | some q =>
      cases ha : alike q.1 name
      · rw [mixA_more hp hq ha, allV_append, allV_append, ih]
        simp [allV, ha]
      · rw [mixA_same hp hq ha, allV_append, ih]
theorem bulk_append (a b : List Fl) : bulkF (a ++ b) = bulkF a + bulkF b := by simp [bulkF]
theorem bulk_take (l : List Fl) (k : Nat) : bulkF (l.take k) ≤ bulkF l := by
  conv => rhs; rw [← List.take_append_drop k l]
  rw [bulk_append]
  omega
theorem mixA_bulk (l others : List Fl) (name : ByteArray) : ∀ k, k ≤ l.length → bulkF (mixA l others name k) ≤ bulkF (l.take k) + bulkF (others.take k)
  | 0, _ => by simp [mixA, bulkF]
  | k + 1, hk => by
    obtain ⟨p, hp⟩ := some_of_lt (show k < l.length by omega)
    have ih := mixA_bulk l others name k (by omega)
    rw [take_snoc hp, bulk_append]
    cases hq : others[k]? with
    | none =>
      have : others.take (k + 1) = others.take k := by
        have := List.getElem?_eq_none_iff.1 hq
        rw [List.take_of_length_le (by omega), List.take_of_length_le (by omega)]
      rw [mixA_none hp hq, bulk_append, this]
      omega
    | some q =>
      rw [take_snoc hq, bulk_append]
      cases ha : alike q.1 name
      · rw [mixA_more hp hq ha, bulk_append, bulk_append]
        omega
      · rw [mixA_same hp hq ha, bulk_append]
        omega
theorem remove_all (m : List Fl) (name : ByteArray) : (removeL m name).length + (allV m name).length = m.length := by
  induction m with
  | nil => rfl
  | cons p m ih =>
    unfold removeL allV at *
    cases ha : alike p.1 name <;> simp [ha] at ih ⊢ <;> omega
end

set_option maxRecDepth 100000 in
set_option maxHeartbeats 8000000 in
theorem FieldApart_walk (A : Option Addr) (c : Nat) (l : List Fl) (B : Option Addr) (d : Nat) (others : List Fl) (name : ByteArray) (w : World) (hr : Row w A (flat l)) (_hl : l.length ≤ 4398046510976) (_hw : Wide l) (hs : Row w B (flat others)) (_hm : others.length ≤ 4398046510976) (_hv : Wide others) (hn : name.size ≤ maxLen) (hk : bulkF l + bulkF others + name.size ≤ 1048576) (hg : Glob w) :
    Calls Tryd.prog 8 #[.slice A l.length c, .slice B others.length d, .string name] w fun e w' => e = .returned (.bool true) ∧ Below w.heap.size w w' := by
  obtain ⟨i0, hi0, hz0, hz1, hz2⟩ := info_parts info_field
  have hbl := bulk_len l
  have hll : l.length ≤ 1048576 := by omega
  have hwo := bulk_wide (l := others) (by omega)
  have hol := bulk_len others
  have HML := Lib.hid (fun k (hk : k ≤ l.length) => bulk_len (mixA l others name k))
  have HMB := Lib.hid (mixA_bulk l others name)
  go_enter Tryd.func8, Tryd.ntmps8
  go_wp2_with fail
  refine (awake_any w hg).mono ?_
  rintro e w1 ⟨rfl, hb1⟩
  have hr1 := hr.below hb1
  have hs1 := hs.below hb1
  have hg1 := hg.beyond hb1
  go_wp2
  go_loopw [7, 8, 19] (fun v u i wr => ∃ k : Nat, k ≤ l.length ∧ i = .int .i64 k ∧ wr.ownsRow w1.heap.size 24 2 v (mixA l others name k).length (flat (mixA l others name k)) ∧ wr.ownsRow w1.heap.size 24 2 u k (flat (l.take k)) ∧ Apart u v ∧ Below w1.heap.size w1 wr) (fun _ _ i _ => l.length - (RowKit.intOf i).toNat)
  case atStart => exact ⟨0, by omega, rfl, World.ownsRow_nil _ _ _ _, World.ownsRow_nil _ _ _ _, (fun k hk => by (cases hk)), Below.refl _ _⟩
  case round =>
    obtain ⟨k, hkk, rfl, hown7, hown8, hap, hbw⟩ := hrel
    have hmk : (mixA l others name k).length ≤ 1048576 := by
      have h1 := HML.out k hkk
      have h2 := HMB.out k hkk
      have h3 := bulk_take l k
      have h4 := bulk_take others k
      omega
    by_cases hlt : k < l.length
    · obtain ⟨⟨x, y⟩, hxy⟩ := some_of_lt hlt
      obtain ⟨b, off, rfl, hb, h0, h1⟩ := (hr1.below hbw).pair hxy
      have hlk : (l.take k).length ≤ k := List.length_take_le _ _
      have HT := Lib.hid (take_snoc hxy)
      have HX := Lib.hid hxy
      clear hxy
      go_wp2_with (at_builtin; refine wpList_append_any _ rfl (.tmp 24) (.tmp 26) 33 rfl w1.heap.size 24 i0 (.agg #[.string ⟨#[]⟩, .string ⟨#[]⟩]) 2 32 Tryd.underlying33 hi0 hz0 hz1 hz2 rfl (by decide) _ _ _ rfl ((hown8.alloc _).alloc _) _ (some ⟨wr.heap.size + 1, 0, none⟩) 1 1 (flat [(x, y)]) rfl (reads_of_row (row_new2 (wr.alloc (.cells #[.string x, .string y] 24)) x y 24 (by simp)) (flat_length _) (by decide)) ?c1 ?c2 ?c3 ?c4 ?c5)
      case c1 => exact flat_oneCell [(x, y)]
      case c2 => unfold maxLen; omega
      case c3 => omega
      case c4 => simp; have := hbw.size; omega
      case c5 =>
        intro u2 w2 hu2 hg2 hat2
        have hbw2 : Below w1.heap.size w1 w2 := ((hbw.alloc hbw.size _).alloc (by simp; have := hbw.size; omega) _).grown hg2 (by simp; have := hbw.size; omega) (own_lt hown8)
        have hbox2 := box_kept hg2 (own_blt hown8)
        have hv2 := own_other ((hown7.alloc _).alloc _) hg2 hap
        have hap2 : Apart u2 _ := hap.grow hat2 (fun k hk => by have := own_blt hown7 k hk; simp; omega)
        rw [← flat_append] at hu2
        clear hown7 hown8 hap hg2 hat2 hbw h0 h1
        obtain ⟨hc0, hc1, hcz⟩ := hbox2
        go_wp2_with (at_builtin; refine wpList_append_any _ rfl (.tmp 28) (.tmp 30) 33 rfl w1.heap.size 24 i0 (.agg #[.string ⟨#[]⟩, .string ⟨#[]⟩]) 2 32 Tryd.underlying33 hi0 hz0 hz1 hz2 rfl (by decide) _ _ _ rfl (hv2.alloc _) _ (some ⟨w2.heap.size, 0, none⟩) 1 1 (flat [(x, y)]) rfl (reads_of_row (row_new2 w2 x y 24 rfl) (flat_length _) (by decide)) ?d1 ?d2 ?d3 ?d4 ?d5)
        case d1 => exact flat_oneCell [(x, y)]
        case d2 => unfold maxLen; omega
        case d3 => omega
        case d4 => simp; have := hbw2.size; omega
        case d5 =>
          intro v3 w3 hv3 hg3 hat3
          have hbw3 : Below w1.heap.size w1 w3 := (hbw2.alloc hbw2.size _).grown hg3 (by simp; have := hbw2.size; omega) (own_lt hv2)
          have hu3 := own_other (hu2.alloc _) hg3 hap2.symm
          have hap3 : Apart v3 u2 := hap2.symm.grow hat3 (fun k hk => by have := own_blt hu2 k hk; simp; omega)
          rw [← flat_append] at hv3
          clear hv2 hu2 hap2 hg3 hat3 hbw2 hc0 hc1
          by_cases hko : k < others.length
          · obtain ⟨⟨x', y'⟩, hq⟩ := some_of_lt hko
            obtain ⟨b', off', rfl, hb', h0', h1'⟩ := (hs1.below hbw3).pair hq
            have hkd : (k : Int) < (others.length : Int) := by omega
            have HA := Lib.hid (fun w => rAlike_any x' name w (hwo.at_ hq).1 hn)
            have HQ := Lib.hid hq
            clear hq
            cases ha : alike x' name
            · have HM := Lib.hid (mixA_more HX.out HQ.out ha)
              rw [ha] at HA
              clear ha
              go_wp2_with fail
              refine (HA.out _).mono ?_
              rintro e w4 ⟨rfl, hb4⟩
              have h0'' := (hb4.cell (p := ⟨b', off' + k * 2, none⟩) hb').trans h0'
              have h1'' := (hb4.cell (p := ⟨b', off' + k * 2 + 1, none⟩) hb').trans h1'
              have hv4 := own_below hv3 hb4
              have hu4 := own_below hu3 hb4
              have hbw4 := hbw3.trans (hb4.mono hbw3.size)
              clear hb4 hv3 hu3 hbw3 h0' h1'
              go_wp2_with (at_builtin; refine wpList_append_any _ rfl (.tmp 46) (.tmp 51) 33 rfl w1.heap.size 24 i0 (.agg #[.string ⟨#[]⟩, .string ⟨#[]⟩]) 2 32 Tryd.underlying33 hi0 hz0 hz1 hz2 rfl (by decide) _ _ _ rfl (hv4.alloc _) _ (some ⟨w4.heap.size, 0, none⟩) 1 1 (flat [(x', y')]) rfl (reads_of_row (row_new2 w4 x' y' 24 rfl) (flat_length _) (by decide)) ?e1 ?e2 ?e3 ?e4 ?e5)
              case e1 => exact flat_oneCell [(x', y')]
              case e2 => unfold maxLen; omega
              case e3 => omega
              case e4 => simp; have := hbw4.size; omega
              case e5 =>
                intro v5 w5 hv5 hg5 hat5
                have hbw5 : Below w1.heap.size w1 w5 := (hbw4.alloc hbw4.size _).grown hg5 (by simp; have := hbw4.size; omega) (own_lt hv4)
                have hu5 := own_other (hu4.alloc _) hg5 hap3
                have hap5 : Apart v5 u2 := hap3.grow hat5 (fun k hk => by have := own_blt hu4 k hk; simp; omega)
                rw [← flat_append] at hv5
                clear hv4 hu4 hap3 hg5 hat5 hbw4
                go_wp2
                go_roundw
                case rel => exact ⟨k + 1, by omega, by go_num, by rw [HM.out, List.length_append, List.length_append]; exact hv5, by rw [HT.out]; exact hu5, hap5.symm, hbw5⟩
                case measure => simp [RowKit.intOf]; omega
            · have HM := Lib.hid (mixA_same HX.out HQ.out ha)
              rw [ha] at HA
              clear ha
              go_wp2_with fail
              refine (HA.out _).mono ?_
              rintro e w4 ⟨rfl, hb4⟩
              have hv4 := own_below hv3 hb4
              have hu4 := own_below hu3 hb4
              have hbw4 := hbw3.trans (hb4.mono hbw3.size)
              clear hb4 hv3 hu3 hbw3 h0' h1'
              go_wp2
              go_roundw
              case rel => exact ⟨k + 1, by omega, by go_num, by rw [HM.out, List.length_append]; exact hv4, by rw [HT.out]; exact hu4, hap3.symm, hbw4⟩
              case measure => simp [RowKit.intOf]; omega
          · have hkd : ¬ (k : Int) < (others.length : Int) := by omega
            have HM := Lib.hid (mixA_none (name := name) HX.out (List.getElem?_eq_none_iff.2 (show others.length ≤ k by omega)))
            go_wp2
            go_roundw
            case rel => exact ⟨k + 1, by omega, by go_num, by rw [HM.out, List.length_append]; exact hv3, by rw [HT.out]; exact hu3, hap3.symm, hbw3⟩
            case measure => simp [RowKit.intOf]; omega
    · obtain rfl : k = l.length := by omega
      have hmb : bulkF (mixA l others name l.length) ≤ 1048576 := by
        have h2 := HMB.out l.length (Nat.le_refl _)
        have h3 := bulk_take l l.length
        have h4 := bulk_take others l.length
        omega
      have hml := bulk_len (mixA l others name l.length)
      have hall := mixA_all l others name l.length (Nat.le_refl _)
      rw [List.take_length] at hown8 hall
      have hrm := remove_all (mixA l others name l.length) name
      rw [hall] at hrm
      have hg2 := hg1.beyond hbw
      have hbw2 := hb1.trans (hbw.mono hb1.size)
      obtain ⟨A7, c7, rfl⟩ := own_slice hown7
      obtain ⟨A8, c8, rfl⟩ := own_slice hown8
      have hr7 := own_row hown7
      have hr8 := own_row hown8
      have hlb := bulk_all l name
      clear hown7 hown8 hap hbw hg1 hr1 hs1 hb1 HML HMB hmk
      generalize mixA l others name l.length = m at *
      have hkl : bulkF l ≤ 1048576 := by omega
      have HA8 := Lib.hid (fun A c w hr => All_any A c l name w hr (by omega) (bulk_wide hkl) hn)
      have HA7 := Lib.hid (fun A c w hr => All_any A c m name w hr (by omega) (bulk_wide hmb) hn)
      have HT8 := Lib.hid (fun A c w hr hg => Tokens_any A c l name w hr hkl hn hg)
      have HT7 := Lib.hid (fun A c w hr hg => Tokens_any A c m name w hr hmb hn hg)
      have HR7 := Lib.hid (fun A c w hr => Remove_any A c m name w hr (by omega) (bulk_wide hmb) hn)
      rw [hall] at HA7 HT7
      have htl := Nat.le_trans (tokR_len (listR (allV l name))) (listR_bound (allV l name)).2.2
      clear hall
      generalize allV l name = vs at *
      generalize tokR (listR vs) = tr at *
      generalize removeL m name = rm at *
      obtain ⟨tl, te⟩ := tr
      simp only at htl
      have htt : tl.length ≤ 1048576 := by omega
      have hbq : ((rm.length : Int) == (m.length : Int) - (vs.length : Int)) = true := beq_iff_eq.2 (by omega)
      have hsame : (te == te) = true := beq_iff_eq.2 rfl
      clear htl hrm
      go_wp2_with fail
      refine (HA8.out A8 c8 wr hr8).mono ?_
      rintro e w11 ⟨X1, d1, rfl, hown, hb⟩
      have m_11 := hr7.below hb
      have l_11 := hr8.below hb
      have g_11 := hg2.beyond hb
      have x_11 := own_row hown
      have hbw11 := hbw2.trans (hb.mono hbw2.size)
      clear hb hr7 hr8 hg2 hbw2 hown
      go_wp2_with fail
      refine (HA7.out A7 c7 w11 m_11).mono ?_
      rintro e w12 ⟨Y1, e1, rfl, hown, hb⟩
      have m_12 := m_11.below hb
      have l_12 := l_11.below hb
      have g_12 := g_11.beyond hb
      have x_12 := x_11.below hb
      have y_12 := own_row hown
      have hbw12 := hbw11.trans (hb.mono hbw11.size)
      clear hb m_11 l_11 g_11 x_11 hbw11 hown
      go_wp2_with fail
      refine (textss_any (A := X1) (B := Y1) d1 e1 vs w12 x_12 y_12 (by omega)).mono ?_
      rintro e w13 ⟨rfl, hb⟩
      have m_13 := m_12.below hb
      have l_13 := l_12.below hb
      have g_13 := g_12.beyond hb
      have hbw13 := hbw12.trans (hb.mono hbw12.size)
      clear hb x_12 y_12 m_12 l_12 g_12 hbw12
      go_wp2_with fail
      refine (HT8.out A8 c8 w13 l_13 g_13).mono ?_
      rintro e w14 ⟨X2, d2, rfl, hown, hb⟩
      have m_14 := m_13.below hb
      have l_14 := l_13.below hb
      have g_14 := g_13.beyond hb
      have x_14 := own_row hown
      have hbw14 := hbw13.trans (hb.mono hbw13.size)
      clear hb m_13 l_13 g_13 hbw13 hown
      go_wp2_with fail
      refine (HT7.out A7 c7 w14 m_14 g_14).mono ?_
      rintro e w15 ⟨Y2, e2, rfl, hown, hb⟩
      have m_15 := m_14.below hb
      have l_15 := l_14.below hb
      have g_15 := g_14.beyond hb
      have x_15 := x_14.below hb
      have y_15 := own_row hown
      have hbw15 := hbw14.trans (hb.mono hbw14.size)
      clear hb m_14 l_14 g_14 x_14 hbw14 hown
      go_wp2_with fail
      refine (textss_any (A := X2) (B := Y2) d2 e2 tl w15 x_15 y_15 (by omega)).mono ?_
      rintro e w16 ⟨rfl, hb⟩
      have m_16 := m_15.below hb
      have l_16 := l_15.below hb
      have g_16 := g_15.beyond hb
      have hbw16 := hbw15.trans (hb.mono hbw15.size)
      clear hb x_15 y_15 m_15 l_15 g_15 hbw15
      go_wp2_with fail
      refine (HR7.out A7 c7 w16 m_16).mono ?_
      rintro e w17 ⟨X3, d3, rfl, hown, hb⟩
      have l_17 := l_16.below hb
      have g_17 := g_16.beyond hb
      have hbw17 := hbw16.trans (hb.mono hbw16.size)
      clear hb m_16 l_16 g_16 hbw16 hown
      go_wp2_with fail
      refine (HA8.out A8 c8 w17 l_17).mono ?_
      rintro e w18 ⟨X4, d4, rfl, hown, hb⟩
      have g_18 := g_17.beyond hb
      have hbw18 := hbw17.trans (hb.mono hbw17.size)
      clear hb l_17 g_17 hbw17 hown
      go_wp2
      go_ret
      exact ⟨rfl, hbw18⟩
end Go.Proofs.YtamagbdkcfmfmaaDoor
