/-
  Pairs as a query: the walk of the reference.
-/
import Derived.Test.YtjlnbjlhlglneaaDoorTgPq
namespace Go.Proofs.YtjlnbjlhlglneaaDoor
open Go.RowKit Go.Shelf Go.Lib

def accQ (l : List Pr) (k : Nat) : List UInt8 := Lib.join ((l.take k).map printOne) [38]
theorem accQ_first {l : List Pr} {p : Pr} (h : l[0]? = some p) : accQ l (0 + 1) = accQ l 0 ++ printOne p := by
  unfold accQ
  rw [take_snoc h, List.map_append]
  show Lib.join [printOne p] [38] = _
  rw [join_one]
  rfl
theorem accQ_next {l : List Pr} {k : Nat} {p : Pr} (h : l[k]? = some p) (hk : 0 < k) : accQ l (k + 1) = (accQ l k ++ [38]) ++ printOne p := by
  have hl := lt_of_some h
  have hn : (l.take k).map printOne ≠ [] := fun e => by
    have e1 := congrArg List.length e
    rw [List.length_map, List.length_take, List.length_nil] at e1
    omega
  unfold accQ
  rw [take_snoc h, List.map_append]
  show Lib.join ((l.take k).map printOne ++ [printOne p]) [38] = _
  rw [join_snoc 38 _ hn]
  simp
theorem sumP_append (l m : List Pr) : sumP (l ++ m) = sumP l + sumP m := by simp [sumP]
theorem accQ_size (l : List Pr) (k : Nat) : (accQ l k).length ≤ 3 * sumP l := by
  have h1 := one_sum (l.take k)
  have h2 := join_amp ((l.take k).map oneT)
  have h3 : sumP l = sumP (l.take k) + sumP (l.drop k) := by rw [← sumP_append, List.take_append_drop]
  have h4 : ((l.take k).map oneT).map (·.data.toList) = (l.take k).map printOne := by rw [List.map_map]; rfl
  rw [h4, List.length_map] at h2
  unfold accQ
  omega
theorem accQ_all (l : List Pr) : accQ l l.length = Lib.join (l.map printOne) [38] := by unfold accQ; rw [List.take_length]
theorem one_pair (x y : ByteArray) : printOne (x, y, true) = (enc x).data.toList ++ 61 :: (enc y).data.toList := by
  show (enc x).data.toList ++ (if true = true then _ else []) = _
  simp
theorem one_bare (x y : ByteArray) : printOne (x, y, false) = (enc x).data.toList := by
  show (enc x).data.toList ++ (if false = true then _ else []) = _
  simp
set_option maxRecDepth 20000 in
set_option maxHeartbeats 8000000 in
theorem rPrintQuery_any (A : Option Addr) (c : Nat) (l : List Pr) (w : World) (hr : Row w A (flat3 l)) (hz : sumP l ≤ 1048576) (hl : l.length ≤ 1048576) :
    Calls Tryd.prog 28 #[.slice A l.length c] w fun e w' => e = .returned (pqVal l) ∧ Below w.heap.size w w' := by
  obtain ⟨i0, hi0, hz0, hz1, hz2⟩ := info_parts info_byte
  have hsz := Lib.hid (fun p (hp : p ∈ l) => sumP_mem hp)
  have HAL := Lib.hid (fun k => accQ_size l k)
  go_enter Tryd.func28, Tryd.ntmps28
  go_wp2
  go_loopw [4, 5] (fun v i wr => ∃ k : Nat, k ≤ l.length ∧ i = .int .i64 k ∧ BadNo l k ∧ OwnB wr w.heap.size v (accQ l k) ∧ Below w.heap.size w wr) (fun _ i _ => l.length - (RowKit.intOf i).toNat)
  case atStart => exact ⟨0, by omega, rfl, BadNo.zero l, own_empty w, (Below.refl _ w).alloc (Nat.le_refl _) _⟩
  case round =>
    obtain ⟨k, hk, rfl, hbn, ho, hbw⟩ := hrel
    have HBN := Lib.hid hbn
    clear hbn
    have hal := HAL.out k
    by_cases hlt : k < l.length
    · obtain ⟨⟨x, y, z⟩, hx⟩ := some_of_lt hlt
      obtain ⟨b, off, rfl, hb, g0, g1, g2⟩ := hr.trip hx
      have HC := Lib.hid (fun (w' : World) (h : Below w.heap.size w w') => (⟨(h.cell (p := ⟨b, off + k * 3, none⟩) hb).trans g0, (h.cell (p := ⟨b, off + k * 3 + 1, none⟩) hb).trans g1, (h.cell (p := ⟨b, off + k * 3 + 2, none⟩) hb).trans g2⟩ : w'.cell? ⟨b, off + k * 3, none⟩ = some (.string x) ∧ w'.cell? ⟨b, off + k * 3 + 1, none⟩ = some (.string y) ∧ w'.cell? ⟨b, off + k * 3 + 2, none⟩ = some (.bool z)))
      obtain ⟨h0, h1, h2⟩ := HC.out wr hbw
      have hxz := hsz.out _ (List.mem_of_getElem? hx)
      dsimp only at hxz
      have HX := Lib.hid hx
      clear hx g0 g1 g2
      have hex := enc_size x
      have hey := enc_size y
      cases z
      · by_cases hy : y.size = 0
        · have hye : y.toList.isEmpty = true := by rw [empty_eq]; exact decide_eq_true hy
          have hyl : y.toList = [] := by simpa using hye
          by_cases hxe : x.size = 0
          · have hxe' : x.toList.isEmpty = true := by rw [empty_eq]; exact decide_eq_true hxe
            have HQ := Lib.hid (pq_bad HX.out (by unfold badPair; rw [decide_eq_true hxe]; simp))
            clear hy hxe
            go_wp2
            go_ret2
            exact ⟨by rw [HQ.out]; rfl, hbw⟩
          · have hxe' : x.toList.isEmpty = false := by rw [empty_eq]; exact decide_eq_false hxe
            have hgood : badPair (x, y, false) = false := by unfold badPair; rw [decide_eq_true hy, decide_eq_false hxe]; rfl
            have HG := Lib.hid (HBN.out.succ HX.out hgood)
            have HE := Lib.hid (fun w => rEncode_any x w (by omega))
            have HO := Lib.hid (one_bare x y)
            generalize enc x = ex at *
            clear hy hxe hgood hyl
            rcases Nat.eq_zero_or_pos k with hk0 | hk0
            case' inl =>
              obtain ⟨acc, hoA, HT, hla⟩ : ∃ acc : List UInt8, OwnB wr w.heap.size _ acc ∧ RowKit.Hid (accQ l (k + 1) = acc ++ printOne (x, y, false)) ∧ acc.length ≤ 4194304 := ⟨accQ l k, ho, Lib.hid (by subst hk0; exact accQ_first HX.out), by omega⟩
              have hbA := hbw
              subst hk0
              simp only [Nat.zero_mul, Nat.add_zero] at HC h0 h1 h2
              clear ho hal hbw
              go_wp2_with fail
            case' inr =>
              generalize hqe : accQ l k = acc0 at *
              have HT0 := Lib.hid (accQ_next HX.out hk0)
              unfold OwnB at ho
              go_wp2_with (at_builtin; refine wpList_append_own _ rfl _ _ 70 rfl w.heap.size 5 i0 (.int .u8 0) 1 1 Tryd.underlying70 hi0 hz0 hz1 hz2 rfl (by decide) _ _ _ rfl (World.ownsRow.alloc ho _) ⟨wr.heap.size, 0, none⟩ 1 1 [.int .u8 38] rfl rfl (cell_one_new _ _ _) ?c1 ?c2 ?c3 ?c4 ?c5)
              case c1 => intro u hu; simp at hu; subst hu; rfl
              case c2 => unfold maxLen; omega
              case c3 => omega
              case c4 => simp; have := hbw.size; omega
              intro v2 w2 hown2 hg2 _
              have hbA : Below w.heap.size w w2 := (hbw.alloc hbw.size _).grown hg2 (by simp; have := hbw.size; omega) (own_lt ho)
              obtain ⟨acc, hoA, HT, hla⟩ : ∃ acc : List UInt8, OwnB w2 w.heap.size v2 acc ∧ RowKit.Hid (accQ l (k + 1) = acc ++ printOne (x, y, false)) ∧ acc.length ≤ 4194304 := ⟨acc0 ++ [38], by (unfold OwnB; rw [List.length_append, List.map_append]; exact hown2), Lib.hid (by rw [HT0.out, hqe]), by simp; omega⟩
              obtain ⟨d0, d1, d2⟩ := HC.out _ hbA
              clear hown2 hg2 ho hal h0 h1 h2
              go_wp2_with fail
            all_goals
              refine (HE.out _).mono ?_
              rintro e w1 ⟨rfl, b1⟩
              have ho1 := hoA.below b1
              have hb1 := hbA.trans (b1.mono hbA.size)
              unfold OwnB at ho1
              clear b1 hoA hbA
              go_wp2_with (at_builtin; (refine Lib.wpList_append_own_string _ rfl _ _ 70 9 rfl w.heap.size 5 i0 Tryd.underlying70 Tryd.underlying9 hi0 hz0 hz1 hz2 _ _ _ rfl ho1 ex rfl (by unfold maxLen; omega) (by omega) hb1.size ?_))
              intro v3 w3 hown3 hg3 _
              have hb3 : Below w.heap.size w w3 := hb1.grown hg3 hb1.size (own_lt ho1)
              have ho3 : OwnB w3 w.heap.size v3 (acc ++ ex.data.toList) := by
                unfold OwnB
                rw [List.length_append, List.map_append, size_eq, ← strCells_eq]
                exact hown3
              rw [← HO.out, ← HT.out] at ho3
              obtain ⟨e0, e1, e2⟩ := HC.out _ hb3
              clear hown3 hg3 ho1 hb1
              go_wp2
              go_roundw
              case rel => exact ⟨_, by omega, by go_num, HG.out, ho3, hb3⟩
              case measure => simp [RowKit.intOf]; omega
        · have hye : y.toList.isEmpty = false := by rw [empty_eq]; exact decide_eq_false hy
          have HQ := Lib.hid (pq_bad HX.out (by unfold badPair; rw [decide_eq_false hy]; rfl))
          clear hy
          go_wp2
          go_ret2
          exact ⟨by rw [HQ.out]; rfl, hbw⟩
      · have hgood : badPair (x, y, true) = false := rfl
        have HG := Lib.hid (HBN.out.succ HX.out hgood)
        have HE := Lib.hid (fun w => rEncode_any x w (by omega))
        have HF := Lib.hid (fun w => rEncode_any y w (by omega))
        have HO := Lib.hid (one_pair x y)
        have zx : (enc x).size ≤ 4194304 := by omega
        have zy : (enc y).size ≤ 4194304 := by omega
        clear hex hey hgood
        generalize enc x = ex at *
        generalize enc y = ey at *
        rcases Nat.eq_zero_or_pos k with hk0 | hk0
        case inl =>
          obtain ⟨acc, hoA, HT, hla⟩ : ∃ acc : List UInt8, OwnB wr w.heap.size _ acc ∧ RowKit.Hid (accQ l (k + 1) = acc ++ printOne (x, y, true)) ∧ acc.length ≤ 4194304 := ⟨accQ l k, ho, Lib.hid (by subst hk0; exact accQ_first HX.out), by omega⟩
          have hbA := hbw
          subst hk0
          simp only [Nat.zero_mul, Nat.add_zero] at HC h0 h1 h2
          clear ho hal hbw
          go_wp2_with fail
          refine (HE.out _).mono ?_
          rintro e w1 ⟨rfl, b1⟩
          have ho1 := hoA.below b1
          have hb1 := hbA.trans (b1.mono hbA.size)
          unfold OwnB at ho1
          clear b1 hoA hbA
          go_wp2_with (at_builtin; (refine Lib.wpList_append_own_string _ rfl _ _ 70 9 rfl w.heap.size 5 i0 Tryd.underlying70 Tryd.underlying9 hi0 hz0 hz1 hz2 _ _ _ rfl ho1 ex rfl (by unfold maxLen; omega) (by omega) hb1.size ?_))
          intro v3 w3 hown3 hg3 _
          have hb3 : Below w.heap.size w w3 := hb1.grown hg3 hb1.size (own_lt ho1)
          obtain ⟨e0, e1, e2⟩ := HC.out _ hb3
          have HS := Lib.hid (fun (w' : World) (h : Below w.heap.size w w') => (HC.out w' h).2.1)
          have ho3 : w3.ownsRow w.heap.size 5 1 v3 (acc.length + ex.size) (acc.map byteV ++ strCells ex) := hown3
          have hws := hb3.size
          clear hown3 hg3 ho1 hb1
          go_wp2_with fail
          go_region_held3 (fun w' => w'.cell? ⟨b, off + 1, none⟩ = some (.string y)) (first | assumption | go_keep | exact HS.out _ hbC | exact HS.out _ hbB | exact HS.out _ hbD) (first | (refine step_append_any _ rfl (.tmp 53) (.tmp 54) 70 rfl w.heap.size 5 i0 (.int .u8 0) 1 1 Tryd.underlying70 hi0 hz0 hz1 hz2 rfl (by decide) _ _ _ (by rfl) (ho3.drew.alloc _) _ (some ⟨w3.heap.size, 0, none⟩) 1 1 [byteV 61] (by rfl) (reads_of_row ((row_newc _ _ _ rfl).drew) rfl (by decide)) (bytes_oneCell [61]) (by unfold maxLen; omega) (by omega) (by simp; omega) ?_; intro v4 w4 hown4 hg4 _; have hbB : Below w.heap.size w w4 := (below_drew (hb3.alloc hws _)).grown hg4 (by simp; omega) (own_lt ho3)) | (refine step_append_any _ rfl (.tmp 53) (.tmp 54) 70 rfl w.heap.size 5 i0 (.int .u8 0) 1 1 Tryd.underlying70 hi0 hz0 hz1 hz2 rfl (by decide) _ _ _ (by rfl) (own_below (ho3.drew.alloc _) b5) _ (some ⟨w3.heap.size, 0, none⟩) 1 1 [byteV 61] (by rfl) (reads_of_row (((row_newc _ _ _ rfl).drew).below b5) rfl (by decide)) (bytes_oneCell [61]) (by unfold maxLen; omega) (by omega) (by have := hbC.size; omega) ?_; intro v4 w4 hown4 hg4 _; have hbB : Below w.heap.size w w4 := hbC.grown hg4 (by have := hbC.size; omega) (own_lt ho3)) | (go_at_call 19; (with_reducible refine (HF.out _).mono ?_); rintro e w5 ⟨rfl, b5⟩; have hbC : Below w.heap.size w w5 := by (first | exact hbB.trans (b5.mono hbB.size) | exact (below_drew (hb3.alloc hws _)).trans (b5.mono (by simp; omega)))) | (refine step_append_own_string rfl (.tmp 55) (.tmp 61) 70 9 rfl w.heap.size 5 i0 Tryd.underlying70 Tryd.underlying9 hi0 hz0 hz1 hz2 _ _ _ (by rfl) hown4 ey (by rfl) (by unfold maxLen; omega) (by omega) (by have := hbB.size; omega) ?_; intro v6 w6 hown6 hg6; have hbD : Below w.heap.size w w6 := hbB.grown hg6 (by have := hbB.size; omega) (own_lt hown4)) | (refine step_append_own_string rfl (.tmp 55) (.tmp 61) 70 9 rfl w.heap.size 5 i0 Tryd.underlying70 Tryd.underlying9 hi0 hz0 hz1 hz2 _ _ _ (by rfl) (own_below hown4 b5) ey (by rfl) (by unfold maxLen; omega) (by omega) (by have := hbC.size; omega) ?_; intro v6 w6 hown6 hg6; have hbD : Below w.heap.size w w6 := hbC.grown hg6 (by have := hbC.size; omega) (own_lt hown4)))
          all_goals
            have ho6 : OwnB w6 w.heap.size v6 (acc ++ (ex.data.toList ++ 61 :: ey.data.toList)) := by
              unfold OwnB
              have e3 : (acc ++ (ex.data.toList ++ 61 :: ey.data.toList)).length = acc.length + ex.size + 1 + ey.size := by rw [List.length_append, List.length_append, List.length_cons, size_eq, size_eq]; omega
              have e4 : (acc ++ (ex.data.toList ++ 61 :: ey.data.toList)).map byteV = acc.map byteV ++ strCells ex ++ [byteV 61] ++ strCells ey := by simp [strCells_eq]
              rw [e3, e4]
              exact hown6
            rw [← HO.out, ← HT.out] at ho6
            clear hown6 hg6 hown4 hg4 ho3 hb3 hbB hbC b5 e0 e1 e2
            go_wp2
            go_roundw
            case rel => exact ⟨_, by omega, by go_num, HG.out, ho6, hbD⟩
            case measure => simp [RowKit.intOf]; omega
        case inr =>
          generalize hqe : accQ l k = acc0 at *
          have HT0 := Lib.hid (accQ_next HX.out hk0)
          unfold OwnB at ho
          go_wp2_with (at_builtin; refine wpList_append_own _ rfl _ _ 70 rfl w.heap.size 5 i0 (.int .u8 0) 1 1 Tryd.underlying70 hi0 hz0 hz1 hz2 rfl (by decide) _ _ _ rfl (World.ownsRow.alloc ho _) ⟨wr.heap.size, 0, none⟩ 1 1 [.int .u8 38] rfl rfl (cell_one_new _ _ _) ?g1 ?g2 ?g3 ?g4 ?g5)
          case g1 => intro u hu; simp at hu; subst hu; rfl
          case g2 => unfold maxLen; omega
          case g3 => omega
          case g4 => simp; have := hbw.size; omega
          intro v2 w2 hown2 hg2 _
          have hbA : Below w.heap.size w w2 := (hbw.alloc hbw.size _).grown hg2 (by simp; have := hbw.size; omega) (own_lt ho)
          obtain ⟨acc, hoA, HT, hla⟩ : ∃ acc : List UInt8, OwnB w2 w.heap.size v2 acc ∧ RowKit.Hid (accQ l (k + 1) = acc ++ printOne (x, y, true)) ∧ acc.length ≤ 4194304 := ⟨acc0 ++ [38], by (unfold OwnB; rw [List.length_append, List.map_append]; exact hown2), Lib.hid (by rw [HT0.out, hqe]), by simp; omega⟩
          obtain ⟨d0, d1, d2⟩ := HC.out _ hbA
          clear hown2 hg2 ho hal h0 h1 h2
          go_wp2_with fail
          refine (HE.out _).mono ?_
          rintro e w1 ⟨rfl, b1⟩
          have ho1 := hoA.below b1
          have hb1 := hbA.trans (b1.mono hbA.size)
          unfold OwnB at ho1
          clear b1 hoA hbA
          go_wp2_with (at_builtin; (refine Lib.wpList_append_own_string _ rfl _ _ 70 9 rfl w.heap.size 5 i0 Tryd.underlying70 Tryd.underlying9 hi0 hz0 hz1 hz2 _ _ _ rfl ho1 ex rfl (by unfold maxLen; omega) (by omega) hb1.size ?_))
          intro v3 w3 hown3 hg3 _
          have hb3 : Below w.heap.size w w3 := hb1.grown hg3 hb1.size (own_lt ho1)
          obtain ⟨e0, e1, e2⟩ := HC.out _ hb3
          have HS := Lib.hid (fun (w' : World) (h : Below w.heap.size w w') => (HC.out w' h).2.1)
          have ho3 : w3.ownsRow w.heap.size 5 1 v3 (acc.length + ex.size) (acc.map byteV ++ strCells ex) := hown3
          have hws := hb3.size
          clear hown3 hg3 ho1 hb1
          go_wp2_with fail
          go_region_held3 (fun w' => w'.cell? ⟨b, off + k * 3 + 1, none⟩ = some (.string y)) (first | assumption | go_keep | exact HS.out _ hbC | exact HS.out _ hbB | exact HS.out _ hbD) (first | (refine step_append_any _ rfl (.tmp 53) (.tmp 54) 70 rfl w.heap.size 5 i0 (.int .u8 0) 1 1 Tryd.underlying70 hi0 hz0 hz1 hz2 rfl (by decide) _ _ _ (by rfl) (ho3.drew.alloc _) _ (some ⟨w3.heap.size, 0, none⟩) 1 1 [byteV 61] (by rfl) (reads_of_row ((row_newc _ _ _ rfl).drew) rfl (by decide)) (bytes_oneCell [61]) (by unfold maxLen; omega) (by omega) (by simp; omega) ?_; intro v4 w4 hown4 hg4 _; have hbB : Below w.heap.size w w4 := (below_drew (hb3.alloc hws _)).grown hg4 (by simp; omega) (own_lt ho3)) | (refine step_append_any _ rfl (.tmp 53) (.tmp 54) 70 rfl w.heap.size 5 i0 (.int .u8 0) 1 1 Tryd.underlying70 hi0 hz0 hz1 hz2 rfl (by decide) _ _ _ (by rfl) (own_below (ho3.drew.alloc _) b5) _ (some ⟨w3.heap.size, 0, none⟩) 1 1 [byteV 61] (by rfl) (reads_of_row (((row_newc _ _ _ rfl).drew).below b5) rfl (by decide)) (bytes_oneCell [61]) (by unfold maxLen; omega) (by omega) (by have := hbC.size; omega) ?_; intro v4 w4 hown4 hg4 _; have hbB : Below w.heap.size w w4 := hbC.grown hg4 (by have := hbC.size; omega) (own_lt ho3)) | (go_at_call 19; (with_reducible refine (HF.out _).mono ?_); rintro e w5 ⟨rfl, b5⟩; have hbC : Below w.heap.size w w5 := by (first | exact hbB.trans (b5.mono hbB.size) | exact (below_drew (hb3.alloc hws _)).trans (b5.mono (by simp; omega)))) | (refine step_append_own_string rfl (.tmp 55) (.tmp 61) 70 9 rfl w.heap.size 5 i0 Tryd.underlying70 Tryd.underlying9 hi0 hz0 hz1 hz2 _ _ _ (by rfl) hown4 ey (by rfl) (by unfold maxLen; omega) (by omega) (by have := hbB.size; omega) ?_; intro v6 w6 hown6 hg6; have hbD : Below w.heap.size w w6 := hbB.grown hg6 (by have := hbB.size; omega) (own_lt hown4)) | (refine step_append_own_string rfl (.tmp 55) (.tmp 61) 70 9 rfl w.heap.size 5 i0 Tryd.underlying70 Tryd.underlying9 hi0 hz0 hz1 hz2 _ _ _ (by rfl) (own_below hown4 b5) ey (by rfl) (by unfold maxLen; omega) (by omega) (by have := hbC.size; omega) ?_; intro v6 w6 hown6 hg6; have hbD : Below w.heap.size w w6 := hbC.grown hg6 (by have := hbC.size; omega) (own_lt hown4)))
          all_goals
            have ho6 : OwnB w6 w.heap.size v6 (acc ++ (ex.data.toList ++ 61 :: ey.data.toList)) := by
              unfold OwnB
              have e3 : (acc ++ (ex.data.toList ++ 61 :: ey.data.toList)).length = acc.length + ex.size + 1 + ey.size := by rw [List.length_append, List.length_append, List.length_cons, size_eq, size_eq]; omega
              have e4 : (acc ++ (ex.data.toList ++ 61 :: ey.data.toList)).map byteV = acc.map byteV ++ strCells ex ++ [byteV 61] ++ strCells ey := by simp [strCells_eq]
              rw [e3, e4]
              exact hown6
            rw [← HO.out, ← HT.out] at ho6
            clear hown6 hg6 hown4 hg4 ho3 hb3 hbB hbC b5 e0 e1 e2
            go_wp2
            go_roundw
            case rel => exact ⟨_, by omega, by go_num, HG.out, ho6, hbD⟩
            case measure => simp [RowKit.intOf]; omega
    · obtain rfl : k = l.length := by omega
      have HQ := Lib.hid (pq_good HBN.out.all)
      rw [accQ_all] at ho
      have hcv := ho.conv
      go_wp2
      go_ret2
      exact ⟨by rw [HQ.out]; rfl, hbw⟩
end Go.Proofs.YtjlnbjlhlglneaaDoor
