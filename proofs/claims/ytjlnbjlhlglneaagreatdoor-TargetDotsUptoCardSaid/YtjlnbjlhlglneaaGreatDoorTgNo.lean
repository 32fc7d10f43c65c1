/-
  A path's normal form: the walk of the program's function.
-/
import Derived.Test.YtjlnbjlhlglneaaGreatDoorTgSg
import Derived.Lib.Join
namespace Go.Proofs.YtjlnbjlhlglneaaGreatDoor
open Go.RowKit Go.Shelf Go.Lib
attribute [local go_sem] Oper.semAt_some

theorem normR_no {s : ByteArray} (h : isPathB s = false) : normR s = (⟨#[]⟩, 53) := by unfold normR; rw [if_neg (by rw [h]; simp)]
theorem normR_yes {s : ByteArray} (h : isPathB s = true) : normR s = (pathOf (keptR (splitC (behind1 (plainT s)) 47)), 0) := by unfold normR; rw [if_pos h]
theorem path_heads {s : ByteArray} (h : isPathB s = true) : heads s 47 = true := by
  rw [isPath_heads] at h
  simp at h
  exact h.1
theorem plain_heads {s : ByteArray} (h : heads s 47 = true) : heads (plainT s) 47 = true := by
  unfold heads at h
  simp only [Bool.and_eq_true, decide_eq_true_eq] at h
  obtain ⟨h0, h1⟩ := h
  have ht : tri s 0 = false := by
    cases e : tri s 0
    · rfl
    · have := (tri_iff.1 e).2
      omega
  have e1 := plF_on (acc := []) h0 ht
  rw [plF_acc s s.size 1 _ (by omega)] at e1
  have hd : (plainT s).data.toList = byteAt s 0 :: plF s 1 [] := e1
  unfold heads
  have hz : 0 < (plainT s).size := by rw [← size_eq, hd]; simp
  have hb : bt (plainT s) 0 = 47 := by
    unfold bt
    rw [hd]
    exact h1
  rw [decide_eq_true hz, decide_eq_true hb]
  rfl
theorem dot_test (y : ByteArray) : (y.toList == [46]) = decide (y = dotT) := by rw [← eq_str]; rw [show dotT.toList = [46] by decide +kernel]
theorem dots_test (y : ByteArray) : (y.toList == [46, 46]) = decide (y = dotsT) := by rw [← eq_str]; rw [show dotsT.toList = [46, 46] by decide +kernel]
theorem join_len {l : List ByteArray} (h : l ≠ []) : (Lib.join (l.map (·.data.toList)) [47]).length + 1 = sumS l + l.length := by
  rw [← slashAll_len, slashAll_join h]
  rfl
theorem join_path {l : List ByteArray} (h : l ≠ []) : (⟨#[47]⟩ : ByteArray) ++ ⟨(Lib.join (l.map (·.data.toList)) [47]).toArray⟩ = pathOf l := by
  apply bytes_ext
  rw [cat_data]
  unfold pathOf
  rw [if_neg h]
  show _ = slashAll l
  rw [slashAll_join h]
theorem Join_own {w : World} {base c : Nat} {A : Option Addr} {l : List ByteArray} (h : w.ownsRow base 9 1 (.slice A l.length c) l.length (l.map .string)) (hne : l ≠ []) (hl : (Lib.join (l.map (·.data.toList)) [47]).length ≤ 140737488355328) (hn : l.length ≤ 140737488355328) :
    Calls Tryz.prog 57 #[.slice A l.length c, .string ⟨#[47]⟩] w fun e w' => e = .returned (.string ⟨(Lib.join (l.map (·.data.toList)) [47]).toArray⟩) ∧ Below w.heap.size w w' := by
  have hpos := List.length_pos_iff.2 hne
  obtain ⟨x, hx⟩ := some_of_lt hpos
  obtain ⟨b, off, rfl, hb, _⟩ := (own_row h).str hx
  have hcells : ∀ (j : Nat) x, l[j]? = some x → w.cell? ⟨b, off + j, none⟩ = some (.string x) := fun j x hj => by
    obtain ⟨b', off', he, _, hc⟩ := (own_row h).str hj
    injection he with he
    injection he with h1 h2
    subst h1 h2
    exact hc
  exact Tryz.strings_Join b off c l ⟨#[47]⟩ w hcells hb hn (own_cap h) hl
theorem boxed_at {β : Type} (B : Nat) (t : TypeId) (f : β → Value) : Own (fun s W => Boxed W B t (f s)) := fun s A W row hs hg hr => hs.kept hg (fun e' => by
  obtain ⟨o, ho, hc⟩ := hr B e'.symm
  rw [show A.heap[B]? = _ from hs] at ho
  cases ho
  cases hc)
def normVal (s : ByteArray) : Value := .tuple #[.string (normR s).1, .int .i64 (normR s).2]
set_option maxRecDepth 100000 in
set_option maxHeartbeats 4000000 in
theorem Normal_no (s : ByteArray) (w : World) (hs : s.size ≤ 4194304) (hp : isPathB s = false) :
    Calls Tryz.prog 26 #[.string s] w fun e w' => e = .returned (normVal s) ∧ Below w.heap.size w w' := by
  have HP := Lib.hid (fun w => isPath_any s w (by omega))
  unfold normVal
  rw [normR_no hp]
  rw [hp] at HP
  clear hp
  go_enter Tryz.func26, Tryz.ntmps26
  go_wp2_with fail
  refine (HP.out _).mono ?_
  rintro e w1 ⟨rfl, q, rfl⟩
  go_wp2
  go_ret2
  exact ⟨rfl, below_drewN (Below.refl _ _) q⟩
set_option maxRecDepth 100000 in
set_option maxHeartbeats 8000000 in
theorem Normal_yes (s : ByteArray) (w : World) (hs : s.size ≤ 4194304) (hg : Glob w) (hp : isPathB s = true) :
    Calls Tryz.prog 26 #[.string s] w fun e w' => e = .returned (normVal s) ∧ Below w.heap.size w w' := by
  obtain ⟨i0, hi0, hz0, hz1, hz2⟩ := info_parts info_string
  have HP := Lib.hid (fun w => isPath_any s w (by omega))
  have HH := Lib.hid (plain_heads (path_heads hp))
  have hps := plainT_size s
  unfold normVal
  rw [normR_yes hp]
  rw [hp] at HP
  clear hp
  have HPL := Lib.hid (show plainT s = ⟨(plF s 0 []).toArray⟩ from rfl)
  refine (callsIn_wide (n := 8)).1 ?_
  refine callsIn_of_wp_marks Tryz.func26 rfl trivial ?_ rfl
  simp only [Tryz.ntmps26, List.size_toArray, List.length_cons, List.length_nil, Nat.reduceAdd, Nat.reduceSub, Array.replicate_succ, Array.replicate_zero, List.push_toArray, List.append_toArray, List.nil_append, List.cons_append]
  gi_wp2_with fail
  refine ⟨trivial, (callsIn_wide.2 (HP.out _)).mono ?_⟩
  rintro e w1 ⟨rfl, q, rfl⟩
  gi_wp2_with fail
  gi_loopw [5] (fun v wr => ∃ (k : Nat) (acc : List UInt8), k ≤ s.size ∧ v = .int .i64 k ∧ acc.length ≤ k ∧ plF s k acc = plF s 0 [] ∧ Lib.IsBuilderF 88 5 w.heap.size w.heap.size (Lib.byteCells acc) wr ∧ Below w.heap.size w wr ∧ w.heap.size < wr.heap.size) (fun v _ => s.size - (RowKit.intOf v).toNat)
  case atStart => exact ⟨0, [], by omega, rfl, by simp, rfl, Lib.IsBuilderF.of (Lib.fresh_isBuilder 88 5 (w.drewN q)), (below_drewN (Below.refl _ w) q).alloc (Nat.le_refl _) _, by simp⟩
  case round =>
    obtain ⟨k, acc, hk, rfl, hal, hpl, hI, hbw, hsz⟩ := hrel
    have HL := Lib.hid hpl
    have HI := Lib.hid hI
    clear hpl hI
    by_cases hlt : k < s.size
    · have hb := @bt_eq s k hlt
      have HT := Lib.hid (triple_any s k wr (by omega) hk)
      cases ht : tri s k
      · have HS := Lib.hid ((plF_on (acc := acc) hlt ht).symm.trans HL.out)
        gi_wp2_with fail
        refine ⟨trivial, (callsIn_wide.2 HT.out).mono ?_⟩
        rintro e w1 ⟨v, rfl, _, q2, rfl⟩
        rw [ht]
        clear ht
        gi_wp2_with fail
        have hI1 := builder_below HI.out (below_drewN (Below.refl _ _) q2)
        refine ⟨trivial, (callsIn_wide.2 (WriteByte_k w.heap.size w.heap.size _ _ _ hI1 (by rw [Lib.byteCells_length]; omega) (by have := hbw.size; exact this))).mono ?_⟩
        rintro e w2 ⟨rfl, h2, b2, _⟩
        have hI2 : Lib.IsBuilderF 88 5 w.heap.size w.heap.size (Lib.byteCells (acc ++ [byteAt s k])) w2 := .inr (by
          rw [Lib.byteCells_append]
          exact h2)
        have hbw2 : Below w.heap.size w w2 := (below_drewN hbw q2).trans b2
        have hsz2 : w.heap.size < w2.heap.size := Nat.lt_of_lt_of_le hsz b2.size
        have HI2 := Lib.hid hI2
        clear h2 hI1 hI2
        gi_wp2
        go_roundw
        case rel => exact ⟨k + 1, acc ++ [byteAt s k], by omega, by go_num, by rw [List.length_append]; exact Nat.add_le_add hal (Nat.le_refl 1), HS.out, HI2.out, hbw2, hsz2⟩
        case measure => simp [RowKit.intOf]; omega
      · have HS := Lib.hid ((plF_tri (acc := acc) ht).symm.trans HL.out)
        have h3 := (tri_iff.1 ht).1
        have hone := class_one (triB s k).toNat
        have HC := Lib.hid (fun w => class_any (triB s k).toNat w (by omega) (by have := (triB s k).toNat_lt; omega))
        have HTT := Lib.hid ht
        have HV := Lib.hid (triB_bt ht)
        clear ht
        cases hu : unres ((triB s k).toNat : Int)
        · have HB := Lib.hid (show encB (triB s k) = pct (triB s k) by unfold encB; rw [if_neg (by rw [hu]; simp)])
          have HPC := Lib.hid (fun w => percent_any (triB s k) w)
          rw [hu] at hone
          clear hu
          gi_wp2_with fail
          refine ⟨trivial, (callsIn_wide.2 HT.out).mono ?_⟩
          rintro e w1 ⟨v, rfl, hv, q2, rfl⟩
          have hv := hv HTT.out
          rw [← HV.out] at hv
          rw [HTT.out, hv]
          clear hv
          gi_wp2_with fail
          refine ⟨trivial, (callsIn_wide.2 (HC.out _)).mono ?_⟩
          rintro e w1 ⟨rfl, rfl⟩
          gi_wp2_with fail
          refine ⟨trivial, (callsIn_wide.2 (HPC.out _)).mono ?_⟩
          rintro e w1 ⟨rfl, q3, rfl⟩
          gi_wp2_with fail
          have hI1 := builder_below HI.out (below_drewN (Below.refl _ wr) (q2 + q3))
          refine ⟨trivial, (callsIn_wide.2 (WriteString_k w.heap.size w.heap.size _ _ _ hI1 (by rw [Lib.byteCells_length, ← size_eq]; have : (pct (triB s k)).length = 3 := rfl; simp only; omega) (by have := hbw.size; exact this))).mono ?_⟩
          rintro e w2 ⟨rfl, h2, b2, _⟩
          have hI2 : Lib.IsBuilderF 88 5 w.heap.size w.heap.size (Lib.byteCells (acc ++ encB (triB s k))) w2 := .inr (by
            rw [HB.out, Lib.byteCells_append]
            exact h2)
          have hbw2 : Below w.heap.size w w2 := (below_drewN hbw (q2 + q3)).trans b2
          have hsz2 : w.heap.size < w2.heap.size := Nat.lt_of_lt_of_le hsz b2.size
          have hel := (encB_len (triB s k)).2
          have HI2 := Lib.hid hI2
          clear h2 hI1 hI2
          gi_wp2
          go_roundw
          case rel => exact ⟨k + 3, acc ++ encB (triB s k), by omega, by go_num, by rw [List.length_append]; omega, HS.out, HI2.out, hbw2, hsz2⟩
          case measure => simp [RowKit.intOf]; omega
        · have HB := Lib.hid (show encB (triB s k) = [triB s k] by unfold encB; rw [if_pos hu])
          rw [hu] at hone
          clear hu
          gi_wp2_with fail
          refine ⟨trivial, (callsIn_wide.2 HT.out).mono ?_⟩
          rintro e w1 ⟨v, rfl, hv, q2, rfl⟩
          have hv := hv HTT.out
          rw [← HV.out] at hv
          rw [HTT.out, hv]
          clear hv
          gi_wp2_with fail
          refine ⟨trivial, (callsIn_wide.2 (HC.out _)).mono ?_⟩
          rintro e w1 ⟨rfl, rfl⟩
          gi_wp2_with fail
          have hI1 := builder_below HI.out (below_drewN (Below.refl _ wr) q2)
          refine ⟨trivial, (callsIn_wide.2 (WriteByte_k w.heap.size w.heap.size _ _ _ hI1 (by rw [Lib.byteCells_length]; omega) (by have := hbw.size; exact this))).mono ?_⟩
          rintro e w2 ⟨rfl, h2, b2, _⟩
          have hI2 : Lib.IsBuilderF 88 5 w.heap.size w.heap.size (Lib.byteCells (acc ++ encB (triB s k))) w2 := .inr (by
            rw [HB.out, Lib.byteCells_append]
            exact h2)
          have hbw2 : Below w.heap.size w w2 := (below_drewN hbw q2).trans b2
          have hsz2 : w.heap.size < w2.heap.size := Nat.lt_of_lt_of_le hsz b2.size
          have hel := (encB_len (triB s k)).2
          have HI2 := Lib.hid hI2
          clear h2 hI1 hI2
          gi_wp2
          go_roundw
          case rel => exact ⟨k + 3, acc ++ encB (triB s k), by omega, by go_num, by rw [List.length_append]; omega, HS.out, HI2.out, hbw2, hsz2⟩
          case measure => simp [RowKit.intOf]; omega
    · obtain rfl : k = s.size := by omega
      have HE := Lib.hid ((plF_end (s := s) (acc := acc) (Nat.le_refl _)).symm.trans HL.out)
      gi_wp2_with fail
      have b0 : Below wr.heap.size wr ((wr.alloc (.cells #[.slice none 0 0] 41)).alloc (.cells #[.bool false] 4)) := ((Below.refl _ wr).alloc (Nat.le_refl _) _).alloc (by simp) _
      have hI0 := builder_below HI.out b0
      refine ⟨trivial, (callsIn_wide.2 (Tryz.Builder_String_any_k w.heap.size w.heap.size _ _ hI0 (by simp; omega))).mono ?_⟩
      rintro e W1 ⟨rfl, _, b1, ko1⟩
      have bO := Boxed.new wr 41 (.slice none 0 0)
      have bD := Boxed.new (wr.alloc (.cells #[.slice none 0 0] 41)) 4 (.bool false)
      rw [World.size_alloc] at bD
      have bK1 : Boxed W1 wr.heap.size 41 (.slice none 0 0) := ko1 _ _ (bO.alloc _) (by simp; omega) (fun c fz e => by injection e with _ e _; exact absurd e (by decide))
      have bD1 : Boxed W1 (wr.heap.size + 1) 4 (.bool false) := ko1 _ _ bD (by simp; omega) (fun c fz e => by injection e with _ e _; exact absurd e (by decide))
      rw [show (⟨acc.toArray⟩ : ByteArray) = plainT s by rw [HPL.out, HE.out]]
      have hB1 : Below w.heap.size w W1 := (hbw.trans (b0.mono hbw.size)).trans b1
      have hsz1 : wr.heap.size + 1 < W1.heap.size := bD1.lt
      clear bO bD b0 b1 ko1 hI0 HI HL HE HPL hal hbw
      clear hk hlt
      have hpt : (plainT s).size ≤ 4194304 := by omega
      clear hps
      generalize hgt : plainT s = t at *
      have HGT := Lib.hid hgt
      clear hgt
      gi_wp2_with fail
      refine ⟨trivial, (callsIn_wide.2 (each_any t _)).mono ?_⟩
      rintro e w2 ⟨rfl, rfl⟩
      gi_wp2_with fail
      have bN := Boxed.new W1 9 (.string t)
      have hB2 : Below w.heap.size w (W1.alloc (.cells #[.string t] 9)) := hB1.alloc hB1.size _
      refine wpIn_rangeFunc_ownG rfl (by omega) (gf := 76) (lb := #[.pointer (some ⟨W1.heap.size, 0, none⟩)]) rfl trivial (enters_of Tryz.func76 (by kernel_rfl) rfl)
        (each_stops (8 - 1) (by omega) W1.heap.size w.heap.size t HH.out hpt _ (hg.beyond hB2) (by simp) hg.size bN.cell) belowK_t (belowK_b (by simp; omega)) (Below.refl _ _) (fun _ => rfl)
        (fun pre W => ((∃ v, Boxed W wr.heap.size 41 v ∧ W.ownsRow w.heap.size 9 1 v (keepAll [] (bare pre)).length ((keepAll [] (bare pre)).map Value.string) ∧ True) ∧ Boxed W (wr.heap.size + 1) 4 (.bool (lastDots false (bare pre)))) ∧ Below w.heap.size w W)
        (fun _ _ _ => False)
        (OwnFrom.and (OwnFrom.and (Own.from (holdsRow_own w.heap.size wr.heap.size 41 9 1 (fun pre => (keepAll [] (bare pre)).length) (fun pre => (keepAll [] (bare pre)).map Value.string) (fun _ _ => True)) _) (Own.from (boxed_at (wr.heap.size + 1) 4 (fun pre => .bool (lastDots false (bare pre)))) _)) (ownFrom_below (Nat.le_refl _) (by simp; omega)))
        (fun _ _ _ _ _ hs _ _ => hs)
        ⟨⟨⟨_, bK1.alloc _, World.ownsRow_nil _ _ _ _, trivial⟩, bD1.alloc _⟩, hB2⟩
        (fun x => { tmps := #[.string s, undef, .string ⟨#[]⟩, .int .i64 0, .pointer (some ⟨w.heap.size, 0, none⟩), .int .i64 s.size, u6, u7, .pointer (some ⟨wr.heap.size, 0, none⟩), .pointer (some ⟨wr.heap.size + 1, 0, none⟩), .string x.1, .string s, .bool true, .bool false, .int .i64 s.size, .string s, .int .i64 s.size, .bool false, u18, u19, u20, u21, u22, u23, u24, u25, u26, u27, u28, u29, u30, u31, u32, u33, u34, u35, u36, u37, u38, u39, u40, u41, u42, u43, .string t, .func (.func 76) #[] #[.pointer (some ⟨W1.heap.size, 0, none⟩)], .string x.1, undef, undef, undef, undef, undef, undef, undef, undef, undef, undef, undef, undef, undef, undef, undef, undef, undef, undef, undef, undef, undef, undef, undef, undef, undef, undef, undef, undef, undef, undef, undef, undef, undef], defers := [] }) ?assign ?body ?done ?stop
      case assign =>
        intro l x W K hK
        gi_wp2
        exact hK
      case body =>
        rintro l pre ⟨y, hy⟩ W ⟨⟨⟨v, hv, hrow, _⟩, hd⟩, hB⟩ hlt
        dsimp only
        have hkl : (keepAll [] (bare pre)).length ≤ 4194304 := by
          have h1 := (keepAll_sum (bare pre) []).2
          have h2 := splitC_len (behind1 t) 47
          have h3 : (behind1 t).size ≤ t.size := by unfold behind1; rw [ByteArray.size_extract]; omega
          rw [bare_length] at h1
          simp only [List.length_nil] at h1
          omega
        have HS := Lib.hid (show keepAll [] (bare (pre ++ [⟨y, hy⟩])) = keepOne (keepAll [] (bare pre)) y by rw [bare_snoc, keepAll_snoc])
        have HD := Lib.hid (show lastDots false (bare (pre ++ [⟨y, hy⟩])) = isDots y by rw [bare_snoc, lastDots_snoc])
        generalize keepAll [] (bare pre) = kl at *
        generalize lastDots false (bare pre) = ld at *
        have hcd := hd.cell
        have hfd := hd.frozen
        have t1 := dot_test y
        have t2 := dots_test y
        have hKB : w.heap.size ≤ wr.heap.size := by omega
        by_cases hy2 : y = dotsT
        · have hy1 : ¬ y = dotT := by rw [hy2]; decide
          rw [decide_eq_false hy1] at t1
          rw [decide_eq_true hy2] at t2
          have HD2 := Lib.hid (show isDots y = true by unfold isDots; rw [decide_eq_true hy2]; simp)
          have HS2 := Lib.hid (show keepOne kl y = kl.dropLast by unfold keepOne; rw [if_pos hy2])
          clear hy1 hy2
          have hd2 := hd.set (.bool true)
          have hv2 := hv.kept (grownBy_setCell' W (wr.heap.size + 1) (.bool true)) (by simp)
          have hrow2 := hrow.kept (grownBy_setCell' W (wr.heap.size + 1) (.bool true)) (.inr (hd.not_row (by decide) hrow).symm)
          have hB3 := hB.setCell (p := ⟨wr.heap.size + 1, 0, none⟩) (show w.heap.size ≤ wr.heap.size + 1 by omega) (.bool true)
          have hcv := hv2.cell
          have hfv := hv2.frozen
          rcases List.eq_nil_or_concat kl with hk0 | ⟨kl', z, hk0⟩
          · subst hk0
            obtain ⟨A, c, rfl⟩ := own_slice hrow
            clear hd hv hrow
            gi_wp2
            exact ⟨(KeepsOthers.setCell _ _ _).from _, (Below.refl w.heap.size W).setCell (p := ⟨wr.heap.size + 1, 0, none⟩) (show w.heap.size ≤ wr.heap.size + 1 by omega) _, ⟨⟨_, hv2, by rw [HS.out, HS2.out]; exact hrow2, trivial⟩, by rw [HD.out, HD2.out]; exact hd2⟩, hB3⟩
          · rw [List.concat_eq_append] at hk0
            subst hk0
            have hle : (kl' ++ [z]).length = kl'.length + 1 := by simp
            rw [hle] at hrow hrow2 hkl
            rw [List.map_append] at hrow2
            have HS3 := Lib.hid (show (kl' ++ [z]).dropLast = kl' by simp)
            obtain ⟨g, cap, rfl⟩ := ownsRow_succ hrow
            have hcap := own_cap hrow
            have hp := ownsRow_pop (by rw [List.length_map, Nat.mul_one]) hrow2
            have hv3 := hv2.set (.slice (some ⟨g, 0, none⟩) kl'.length cap)
            have hd3 := hd2.kept (grownBy_setCell' (W.setCell ⟨wr.heap.size + 1, 0, none⟩ (.bool true)) wr.heap.size (.slice (some ⟨g, 0, none⟩) kl'.length cap)) (by simp)
            have hrow3 := hp.kept (grownBy_setCell' (W.setCell ⟨wr.heap.size + 1, 0, none⟩ (.bool true)) wr.heap.size (.slice (some ⟨g, 0, none⟩) kl'.length cap)) (.inr (hv2.not_row (by decide) hp).symm)
            have hB4 := hB3.setCell (p := ⟨wr.heap.size, 0, none⟩) hKB (.slice (some ⟨g, 0, none⟩) kl'.length cap)
            clear hd hv hrow hrow2 hle hp
            gi_wp2
            exact ⟨((KeepsOthers.setCell _ _ _).trans (KeepsOthers.setCell _ _ _)).from _, ((Below.refl w.heap.size W).setCell (p := ⟨wr.heap.size + 1, 0, none⟩) (show w.heap.size ≤ wr.heap.size + 1 by omega) _).setCell (p := ⟨wr.heap.size, 0, none⟩) hKB _, ⟨⟨_, hv3, by rw [HS.out, HS2.out, HS3.out]; exact hrow3, trivial⟩, by rw [HD.out, HD2.out]; exact hd3⟩, hB4⟩
        · rw [decide_eq_false hy2] at t2
          by_cases hy1 : y = dotT
          · rw [decide_eq_true hy1] at t1
            have HD2 := Lib.hid (show isDots y = true by unfold isDots; rw [decide_eq_true hy1]; simp)
            have HS2 := Lib.hid (show keepOne kl y = kl by unfold keepOne; rw [if_neg hy2, if_pos hy1])
            clear hy1 hy2
            have hd2 := hd.set (.bool true)
            have hv2 := hv.kept (grownBy_setCell' W (wr.heap.size + 1) (.bool true)) (by simp)
            have hrow2 := hrow.kept (grownBy_setCell' W (wr.heap.size + 1) (.bool true)) (.inr (hd.not_row (by decide) hrow).symm)
            have hB3 := hB.setCell (p := ⟨wr.heap.size + 1, 0, none⟩) (show w.heap.size ≤ wr.heap.size + 1 by omega) (.bool true)
            have hcd2 := hd2.cell
            clear hd hv hrow
            gi_wp2
            exact ⟨(KeepsOthers.setCell _ _ _).from _, (Below.refl w.heap.size W).setCell (p := ⟨wr.heap.size + 1, 0, none⟩) (show w.heap.size ≤ wr.heap.size + 1 by omega) _, ⟨⟨_, hv2, by rw [HS.out, HS2.out]; exact hrow2, trivial⟩, by rw [HD.out, HD2.out]; exact hd2⟩, hB3⟩
          · rw [decide_eq_false hy1] at t1
            have HD2 := Lib.hid (show isDots y = false by unfold isDots; rw [decide_eq_false hy1, decide_eq_false hy2]; rfl)
            have HS2 := Lib.hid (show keepOne kl y = kl ++ [y] by unfold keepOne; rw [if_neg hy2, if_neg hy1])
            clear hy1 hy2
            have hd2 := hd.set (.bool false)
            have hv2 := hv.kept (grownBy_setCell' W (wr.heap.size + 1) (.bool false)) (by simp)
            have hrow2 := hrow.kept (grownBy_setCell' W (wr.heap.size + 1) (.bool false)) (.inr (hd.not_row (by decide) hrow).symm)
            have hB3 := hB.setCell (p := ⟨wr.heap.size + 1, 0, none⟩) (show w.heap.size ≤ wr.heap.size + 1 by omega) (.bool false)
            have hcv := hv2.cell
            have hcd2 := hd2.cell
            have hko3 := KeepsOthers.setCell W ⟨wr.heap.size + 1, 0, none⟩ (.bool false)
            have hbb3 := (Below.refl w.heap.size W).setCell (p := ⟨wr.heap.size + 1, 0, none⟩) (show w.heap.size ≤ wr.heap.size + 1 by omega) (.bool false)
            have HN := Lib.hid (show ∀ j u, [Value.string y][j]? = some u → ((W.setCell ⟨wr.heap.size + 1, 0, none⟩ (.bool false)).alloc (.cells #[.string y] 9)).cell? ((⟨W.heap.size, 0, none⟩ : Addr).add j) = some u by
              have h := cell_one_new (W.setCell ⟨wr.heap.size + 1, 0, none⟩ (.bool false)) (.string y) 9
              rwa [World.size_setCell] at h)
            clear hd hv hrow
            gi_wp2_with (gi_at_builtin; refine wpListIn_append_own _ rfl _ _ 41 rfl w.heap.size 9 i0 (.string ⟨#[]⟩) 1 16 Tryz.underlying41 hi0 hz0 hz1 hz2 rfl (by decide) _ _ _ rfl (hrow2.alloc _) ⟨W.heap.size, 0, none⟩ 1 1 [.string y] rfl rfl HN.out (by simp [Value.oneCell']) (by unfold maxLen; omega) (by omega) (by have := hB3.size; simp at this; simp; omega) ?_; intro v' w1 hown' hgrow _; obtain ⟨g', cap', rfl⟩ := ownsRow_succ hown'; obtain ⟨hv3, hv4, hr4, hk4, hb4⟩ := hv2.appended (by decide) hrow2 hB3.size hKB hown' hgrow; have hd4 := ((hd2.alloc _).kept hgrow (hd2.not_row (by decide) hrow2)).kept (grownBy_setCell' w1 wr.heap.size (.slice (some ⟨g', 0, none⟩) (kl.length + 1) cap')) (by simp); have hc1 := hv3.cell; have hf1 := hv3.frozen)
            exact ⟨(hko3.trans hk4).from _, hbb3.trans hb4, ⟨⟨_, hv4, by rw [HS.out, HS2.out]; simpa using hr4, trivial⟩, by rw [HD.out, HD2.out]; exact hd4⟩, hB3.trans hb4⟩
      case done =>
        rintro D ys W hD hys ⟨⟨⟨v, hv, hrow, _⟩, hd⟩, hB⟩ hK
        rw [hys] at hrow hd
        clear hys
        have hl0 := splitC_ne (behind1 t) 47
        have hl1 := splitC_sum 47 (behind1 t).size (behind1 t) (Nat.le_refl _)
        have hl2 := keptR_sum (splitC (behind1 t) 47)
        have hl3 := keptR_ne hl0
        have hl4 := join_len hl3
        have hb1 : (behind1 t).size ≤ t.size := by unfold behind1; rw [ByteArray.size_extract]; omega
        have hjl : (Lib.join ((keptR (splitC (behind1 t) 47)).map (·.data.toList)) [47]).length ≤ 8388610 := by omega
        have hkl : (keptR (splitC (behind1 t) 47)).length ≤ 4194306 := by omega
        have HJ := Lib.hid (join_path hl3)
        have hjs : (⟨(Lib.join ((keptR (splitC (behind1 t) 47)).map (·.data.toList)) [47]).toArray⟩ : ByteArray).size ≤ 8388610 := by rw [← size_eq]; exact hjl
        cases hld : lastDots false (splitC (behind1 t) 47)
        · have hkr : keepAll [] (splitC (behind1 t) 47) = keptR (splitC (behind1 t) 47) := by unfold keptR; rw [if_neg (by rw [hld]; simp)]
          rw [hkr] at hrow
          rw [hld] at hd
          clear hkr hld hl0 hl1 hl2 hl4 hb1
          generalize hkp : keptR (splitC (behind1 t) 47) = kept at *
          have HKP := Lib.hid hkp
          clear hkp
          have HC := Lib.hid (fun (W : World) (B c : Nat) (A : Option Addr) (h : W.ownsRow B 9 1 (.slice A kept.length c) kept.length (kept.map .string)) => Join_own h hl3 (by omega) (by omega))
          generalize (⟨(Lib.join (kept.map (·.data.toList)) [47]).toArray⟩ : ByteArray) = js at *
          clear hjl hl3
          obtain ⟨A, c, rfl⟩ := own_slice hrow
          have hcv := hv.cell
          have hcd := hd.cell
          gi_wp2_with fail
          refine ⟨trivial, (callsIn_wide.2 (HC.out _ _ _ _ hrow)).mono ?_⟩
          rintro e W2 ⟨rfl, b2⟩
          have hK2 := (KeepsOthers.of_grownBy (below_grown b2) (fun j o e => by cases e)).same D _ hK rfl
          have hB2' := hB.trans (b2.mono hB.size)
          clear b2
          gi_wp2
          refine ⟨by simp, .inl ⟨_, _, rfl, run_takeDeferred hK2, ?_⟩⟩
          exact ⟨.tuple #[.string (⟨#[47]⟩ ++ js), .int .i64 0], by simp [results, Tryz.results26, go_sem], by rw [HGT.out, HKP.out, HJ.out], hB2'.trans (belowK_b (w := w) (Nat.le_refl _) W2 D _ _ (by simp at hD; omega) hK2 rfl rfl)⟩
        · have hkr : keptR (splitC (behind1 t) 47) = keepAll [] (splitC (behind1 t) 47) ++ [⟨#[]⟩] := by unfold keptR; rw [if_pos hld]
          rw [hld] at hd
          have HKR := Lib.hid hkr
          clear hkr hld hl0 hl1 hl2 hl4 hb1
          generalize keepAll [] (splitC (behind1 t) 47) = kl at *
          generalize hkp : keptR (splitC (behind1 t) 47) = kept at *
          have HKP := Lib.hid hkp
          clear hkp
          have hkl1 : kl.length + 1 = kept.length := by rw [HKR.out]; simp
          have HC := Lib.hid (fun (W : World) (B c : Nat) (A : Option Addr) (h : W.ownsRow B 9 1 (.slice A kept.length c) kept.length (kept.map .string)) => Join_own h hl3 (by omega) (by omega))
          generalize (⟨(Lib.join (kept.map (·.data.toList)) [47]).toArray⟩ : ByteArray) = js at *
          clear hjl hl3
          have hcv := hv.cell
          have hcd := hd.cell
          have HW := Lib.hid hK
          gi_wp2_with (gi_at_builtin; refine wpListIn_append_own _ rfl _ _ 41 rfl w.heap.size 9 i0 (.string ⟨#[]⟩) 1 16 Tryz.underlying41 hi0 hz0 hz1 hz2 rfl (by decide) _ _ _ rfl (hrow.alloc _) ⟨W.heap.size, 0, none⟩ 1 1 [.string ⟨#[]⟩] rfl rfl (cell_one_new _ _ _) (by simp [Value.oneCell']) (by unfold maxLen; omega) (by omega) (by have := hB.size; simp; omega) ?_; intro v' w1 hown' hgrow _; obtain ⟨g', cap', rfl⟩ := ownsRow_succ hown'; obtain ⟨hv3, hv4, hr4, hk4, hb4⟩ := hv.appended (by decide) hrow hB.size (show w.heap.size ≤ wr.heap.size by omega) hown' hgrow; have hc1 := hv3.cell; have hf1 := hv3.frozen; have hc4 := hv4.cell)
          have hr5 : (w1.setCell ⟨wr.heap.size, 0, none⟩ (.slice (some ⟨g', 0, none⟩) (kl.length + 1) cap')).ownsRow w.heap.size 9 1 (.slice (some ⟨g', 0, none⟩) kept.length cap') kept.length (kept.map .string) := by
            rw [← hkl1, HKR.out, List.map_append]
            exact hr4
          rw [hkl1] at hr5 hk4 hb4
          have hK4 := hk4.same D _ HW.out rfl
          have hB4 := hB.trans hb4
          refine ⟨trivial, (callsIn_wide.2 (HC.out _ _ _ _ hr5)).mono ?_⟩
          rintro e W2 ⟨rfl, b2⟩
          have hK2 := (KeepsOthers.of_grownBy (below_grown b2) (fun j o e => by cases e)).same D _ hK4 rfl
          have hB2' := hB4.trans (b2.mono hB4.size)
          clear b2 hr5 hk4 hb4 hr4 hc1 hf1 hc4
          gi_wp2
          refine ⟨by simp, .inl ⟨_, _, rfl, run_takeDeferred hK2, ?_⟩⟩
          exact ⟨.tuple #[.string (⟨#[47]⟩ ++ js), .int .i64 0], by simp [results, Tryz.results26, go_sem], by rw [HGT.out, HKP.out, HJ.out], hB2'.trans (belowK_b (w := w) (Nat.le_refl _) W2 D _ _ (by simp at hD; omega) hK2 rfl rfl)⟩
      case stop =>
        rintro D c pre W _ _ h _
        exact h.elim
theorem Normal_any (s : ByteArray) (w : World) (hs : s.size ≤ 4194304) (hg : Glob w) :
    Calls Tryz.prog 26 #[.string s] w fun e w' => e = .returned (normVal s) ∧ Below w.heap.size w w' := by
  cases hp : isPathB s
  · exact Normal_no s w hs hp
  · exact Normal_yes s w hs hg hp
end Go.Proofs.YtjlnbjlhlglneaaGreatDoor
