/-
  A path's normal form: the walks of the reference's functions.
-/
import Derived.Test.YtjlnbjlhlglneaaGreatDoorTgSr
import Derived.Test.YtjlnbjlhlglneaaGreatDoorTgNo
import Derived.Test.YtjlnbjlhlglneaaGreatDoorTgDr
import Derived.Lib.AppendStr
namespace Go.Proofs.YtjlnbjlhlglneaaGreatDoor
open Go.RowKit Go.Shelf Go.Lib

section
variable {P : Program} {w : World}
theorem step_append_own_string {ops : Array Oper} {o : Oper} {a : Act} {K : Act → World → Prop} {Q : Exit → Act → World → Prop} {E : Prop} (hgd : o.guard = none) (sl x : Operand) (t u : TypeId)
    (ho : o.op = .call { callee := .builtin .append, args := #[sl, x], argTypes := #[t, u] })
    (base : Nat) (e : TypeId) (i : TypeInfo) (ht : P.underlying t = some (.slice e)) (hu : P.underlying u = some .string) (hi : P.info? e = some i) (hz : i.zero = some (.int .u8 0))
    (hsize : i.size = 1) (hby : i.bytes = 1)
    (v : Value) (n : Nat) (xs : List Value) (hs : a.eval sl = v) (hown : w.ownsRow base e 1 v n xs) (s : ByteArray) (hx : a.eval x = .string s)
    (h63 : n + s.size ≤ maxLen) (hbytes : n + s.size ≤ 140737488355328) (hbase : base ≤ w.heap.size)
    (h : ∀ v' w', w'.ownsRow base e 1 v' (n + s.size) (xs ++ strCells s) → w.grownBy w' v.ownBlock → K (a.put o.dst v') w') :
    if Region.wanted o (yielded ops a.tmps) = true then Oper.wp P o a w K Q else E := by
  have hw : Region.wanted o (yielded ops a.tmps) = true := by simp [Region.wanted, hgd]
  rw [if_pos hw]
  obtain ⟨v', w', hr, h2, h3, h4⟩ := run_append_own_string (P := P) w base t u o.type e i ht hu hi hz hsize hby v n xs hown s h63 hbytes hbase
  unfold Oper.wp execOp
  simp only [ho, resolve, invoke, builtin, Sem.run_bind, Sem.run_pure, Result.andThen_ok, List.map_toArray, List.map_cons, List.map_nil, hs, hx, hr]
  exact h v' w' h2 h3
end
theorem cell_far {w w2 : World} {row : Option Nat} (hg : w.grownBy w2 row) (p : Addr) (hp : p.block < w.heap.size) (hne : some p.block ≠ row) : w2.cell? p = w.cell? p := World.cell?_of_block (hg.block p.block hp hne)
theorem strCells_eq (s : ByteArray) : Lib.strCells s = s.data.toList.map byteV := by simp [Lib.strCells, byteV]

set_option maxRecDepth 20000 in
set_option maxHeartbeats 4000000 in
theorem rplain_any (s : ByteArray) (w : World) (hs : s.size ≤ 1099511627776) :
    Calls Tryz.prog 47 #[.string s] w fun e w' => e = .returned (.string (plainT s)) ∧ Below w.heap.size w w' := by
  obtain ⟨i0, hi0, hz0, hz1, hz2⟩ := info_parts info_byte
  have HPL := Lib.hid (show plainT s = ⟨(plF s 0 []).toArray⟩ from rfl)
  go_enter Tryz.func47, Tryz.ntmps47
  go_wp2
  go_loopw [3, 4] (fun v i wr => ∃ (k : Nat) (acc : List UInt8), k ≤ s.size ∧ i = .int .i64 k ∧ OwnB wr w.heap.size v acc ∧ acc.length ≤ k ∧ plF s k acc = plF s 0 [] ∧ Below w.heap.size w wr) (fun _ i _ => s.size - (RowKit.intOf i).toNat)
  case atStart => exact ⟨0, [], by omega, rfl, own_empty w, by simp, rfl, (Below.refl _ w).alloc (Nat.le_refl _) _⟩
  case round =>
    obtain ⟨k, acc, hk, rfl, ho, hal, hdec, hbw⟩ := hrel
    have HD := Lib.hid hdec
    clear hdec
    by_cases hlt : k < s.size
    · have hb := @bt_eq s k hlt
      have HT := Lib.hid (rTriple_any s k wr hs hk)
      cases ht : tri s k
      · rw [ht] at HT
        have HS := Lib.hid ((plF_on (acc := acc) hlt ht).symm.trans HD.out)
        clear ht
        have ho1 := ho
        unfold OwnB at ho1
        go_wp2_with fail
        refine HT.out.mono ?_
        rintro e w1 ⟨rfl, rfl⟩
        go_wp2_with (at_builtin; refine wpList_append_own _ rfl _ _ 82 rfl w.heap.size 5 i0 (.int .u8 0) 1 1 Tryz.underlying82 hi0 hz0 hz1 hz2 rfl (by decide) _ _ _ rfl (ho1.alloc _) ⟨wr.heap.size, 0, none⟩ 1 1 [byteV (byteAt s k)] rfl rfl (cell_one_new _ _ _) ?d1 ?d2 ?d3 ?d4 ?d5)
        case d1 => exact bytes_oneCell [_]
        case d2 => unfold maxLen; omega
        case d3 => omega
        case d4 => simp; have := hbw.size; omega
        case d5 =>
          intro v' w2 hown2 hg2 _
          have hb2 : Below w.heap.size w w2 := (hbw.alloc hbw.size _).grown hg2 (by simp; have := hbw.size; omega) (own_lt ho1)
          have ho2 : OwnB w2 w.heap.size v' (acc ++ [byteAt s k]) := by
            unfold OwnB
            rw [List.length_append, List.map_append]
            exact hown2
          clear hown2 hg2 ho ho1
          go_wp2
          go_roundw
          case rel => exact ⟨k + 1, _, by omega, by go_num, ho2, by simp; omega, HS.out, hb2⟩
          case measure => simp [RowKit.intOf]; omega
      · rw [ht] at HT
        have HS := Lib.hid ((plF_tri (acc := acc) ht).symm.trans HD.out)
        have HV := Lib.hid (triB_bt ht)
        have HY := Lib.hid (says_any s k wr hs ht)
        have h3 := (tri_iff.1 ht).1
        rw [← HV.out] at HY
        have HC := Lib.hid (fun w => rUnres_any ((triB s k).toNat : Int) w)
        have HPUT := Lib.hid (fun (w' : World) (v : Value) (h1 : OwnB w' w.heap.size v acc) (h2 : w.heap.size ≤ w'.heap.size) => put_any w.heap.size v acc (triB s k) (unres ((triB s k).toNat : Int)) w' h1 h2 (by omega))
        have HE := Lib.hid (show (if unres ((triB s k).toNat : Int) = true then [triB s k] else pct (triB s k)) = encB (triB s k) from rfl)
        have hel := (encB_len (triB s k)).2
        clear ht
        generalize unres ((triB s k).toNat : Int) = p at *
        go_wp2_with fail
        refine HT.out.mono ?_
        rintro e w1 ⟨rfl, rfl⟩
        go_wp2_with fail
        refine HY.out.mono ?_
        rintro e w1 ⟨rfl, rfl⟩
        go_wp2_with fail
        refine (HC.out _).mono ?_
        rintro e w1 ⟨rfl, rfl⟩
        go_wp2_with fail
        refine (HPUT.out _ _ ho hbw.size).mono ?_
        rintro e w2 ⟨v', rfl, ho2, hb2⟩
        rw [HE.out] at ho2
        have hb3 : Below w.heap.size w w2 := hbw.trans hb2
        clear ho hb2
        go_wp2
        go_roundw
        case rel => exact ⟨k + 3, _, by omega, by go_num, ho2, by rw [List.length_append]; omega, HS.out, hb3⟩
        case measure => simp [RowKit.intOf]; omega
    · obtain rfl : k = s.size := by omega
      have HB := Lib.hid ((plF_end (s := s) (acc := acc) (Nat.le_refl _)).symm.trans HD.out)
      have hcv := ho.conv
      go_wp2
      go_ret
      exact ⟨ret_str (by rw [HPL.out, HB.out]), hbw⟩

theorem own_under {w : World} {b c : Nat} {v : Value} {l : List UInt8} (h : OwnB w c v l) (hb : b ≤ c) : OwnB w b v l := World.ownsRow.mono h hb
theorem keep_take {l : List ByteArray} {k : Nat} {x : ByteArray} (h : l[k]? = some x) : keepAll [] (l.take (k + 1)) = keepOne (keepAll [] (l.take k)) x := by rw [take_snoc h, keepAll_snoc]
theorem last_take {l : List ByteArray} {k : Nat} {x : ByteArray} (h : l[k]? = some x) : lastDots false (l.take (k + 1)) = isDots x := by rw [take_snoc h, lastDots_snoc]
theorem slash_take {l : List ByteArray} {k : Nat} {x : ByteArray} (h : l[k]? = some x) : slashAll (l.take (k + 1)) = slashAll (l.take k) ++ (47 :: x.data.toList) := by rw [take_snoc h]; simp [slashAll]
theorem sum_take (l : List ByteArray) (k : Nat) : sumS (l.take k) + (l.take k).length ≤ sumS l + l.length := by
  have e := List.take_append_drop k l
  have h1 : sumS l = sumS (l.take k) + sumS (l.drop k) := by rw [← sumS_append, e]
  have h2 : l.length = (l.take k).length + (l.drop k).length := by rw [← List.length_append, e]
  omega
set_option maxRecDepth 100000 in
set_option maxHeartbeats 8000000 in
theorem rNormal_any (s : ByteArray) (w : World) (hs : s.size ≤ 4194304) :
    Calls Tryz.prog 23 #[.string s] w fun e w' => e = .returned (normVal s) ∧ Below w.heap.size w w' := by
  have HP := Lib.hid (fun w => rIsPath_any s w (by omega))
  obtain ⟨i0, hi0, hz0, hz1, hz2⟩ := info_parts info_string
  obtain ⟨j0, hj0, hy0, hy1, hy2⟩ := info_parts info_byte
  unfold normVal
  cases hp : isPathB s
  · rw [normR_no hp]
    rw [hp] at HP
    clear hp
    go_enter Tryz.func23, Tryz.ntmps23
    go_wp2_with fail
    refine (HP.out _).mono ?_
    rintro e w1 ⟨rfl, rfl⟩
    go_wp2
    go_ret2
    exact ⟨rfl, Below.refl _ _⟩
  · have hh := plain_heads (path_heads hp)
    have hps := plainT_size s
    have h1 : 1 ≤ (plainT s).size := by
      unfold heads at hh
      simp at hh
      omega
    rw [normR_yes hp]
    rw [hp] at HP
    clear hp hh
    have HR := Lib.hid (fun w => rplain_any s w (by omega))
    have hz : ((plainT s).extract 1 (plainT s).size).size ≤ 4194304 := by rw [ByteArray.size_extract]; omega
    have HS := Lib.hid (fun w => rsplit_any ((plainT s).extract 1 (plainT s).size) 47 w hz)
    have hln := splitC_sum 47 _ ((plainT s).extract 1 (plainT s).size) (Nat.le_refl _)
    have hne := splitC_ne ((plainT s).extract 1 (plainT s).size) 47
    have HPO := Lib.hid (show behind1 (plainT s) = (plainT s).extract 1 (plainT s).size from rfl)
    rw [HPO.out]
    clear HPO
    have hln2 : sumS (splitC ((plainT s).extract 1 (plainT s).size) 47) + (splitC ((plainT s).extract 1 (plainT s).size) 47).length ≤ 4194305 := by omega
    clear hz hln
    have hk1 := keptR_ne hne
    have hk2 := keptR_sum (splitC ((plainT s).extract 1 (plainT s).size) 47)
    have HRES := Lib.hid (show pathOf (keptR (splitC ((plainT s).extract 1 (plainT s).size) 47)) = ⟨(slashAll (keptR (splitC ((plainT s).extract 1 (plainT s).size) 47))).toArray⟩ by unfold pathOf; rw [if_neg hk1])
    rw [HRES.out]
    have HNE := Lib.hid hk1
    clear HRES hk1 hne
    obtain ⟨t, ht⟩ : ∃ t, t = plainT s := ⟨_, rfl⟩
    rw [← ht] at HR HS hln2 hk2 h1 hps HNE ⊢
    clear ht
    obtain ⟨l, hl⟩ : ∃ l, l = splitC (t.extract 1 t.size) 47 := ⟨_, rfl⟩
    rw [← hl] at HS hln2 hk2 HNE ⊢
    clear hl
    go_enter Tryz.func23, Tryz.ntmps23
    go_wp2_with fail
    refine (HP.out _).mono ?_
    rintro e w0 ⟨rfl, rfl⟩
    go_wp2_with fail
    refine (HR.out _).mono ?_
    rintro e w0 ⟨rfl, b0⟩
    go_wp2_with fail
    refine (HS.out _).mono ?_
    rintro e w1 ⟨A, c, rfl, hown, hb1⟩
    have hrow := own_row hown
    have B1 := b0.trans (hb1.mono b0.size)
    clear hown b0 hb1
    go_wp2
    go_loopw [5, 6, 7] (fun v d i wr => ∃ k : Nat, k ≤ l.length ∧ i = .int .i64 k ∧ d = .bool (lastDots false (l.take k)) ∧ wr.ownsRow w1.heap.size 9 1 v (keepAll [] (l.take k)).length ((keepAll [] (l.take k)).map .string) ∧ Below w1.heap.size w1 wr) (fun _ _ i _ => l.length - (RowKit.intOf i).toNat)
    case atStart => exact ⟨0, by omega, rfl, rfl, World.ownsRow_lit w1 #[] 0 (Nat.le_refl _) (by unfold maxLen; omega) rfl, (Below.refl _ w1).alloc (Nat.le_refl _) _⟩
    case round =>
      obtain ⟨k, hk, rfl, rfl, ho, hbw⟩ := hrel
      by_cases hlt : k < l.length
      · obtain ⟨y, hy⟩ := some_of_lt hlt
        obtain ⟨b, off, rfl, hb, h0⟩ := (hrow.below hbw).str hy
        have HK := Lib.hid (keep_take hy)
        have HL := Lib.hid (last_take hy)
        have hkl : (keepAll [] (l.take k)).length ≤ 4194306 := by
          have h1 := (keepAll_sum (l.take k) []).2
          rw [List.length_take] at h1
          simp only [List.length_nil] at h1
          omega
        clear hy
        generalize keepAll [] (l.take k) = kl at *
        generalize lastDots false (l.take k) = ld at *
        have t1 := dot_test y
        have t2 := dots_test y
        by_cases hy2 : y = dotsT
        · have hy1 : ¬ y = dotT := by rw [hy2]; decide
          rw [decide_eq_false hy1] at t1
          rw [decide_eq_true hy2] at t2
          have HD2 := Lib.hid (show isDots y = true by unfold isDots; rw [decide_eq_true hy2]; simp)
          have HS2 := Lib.hid (show keepOne kl y = kl.dropLast by unfold keepOne; rw [if_pos hy2])
          clear hy1 hy2
          rcases List.eq_nil_or_concat kl with hk0 | ⟨kl', z, hk0⟩
          · subst hk0
            obtain ⟨A', c', rfl⟩ := own_slice ho
            go_wp2
            go_roundw
            case rel => exact ⟨k + 1, by omega, by go_num, by rw [HL.out, HD2.out], by rw [HK.out, HS2.out]; exact ho, hbw⟩
            case measure => simp [RowKit.intOf]; omega
          · rw [List.concat_eq_append] at hk0
            subst hk0
            have hle : (kl' ++ [z]).length = kl'.length + 1 := by simp
            rw [hle] at ho hkl
            rw [List.map_append] at ho
            have HS3 := Lib.hid (show (kl' ++ [z]).dropLast = kl' by simp)
            obtain ⟨g, cap, hv, _, _⟩ := ho.form (by omega)
            subst hv
            have hcap := own_cap ho
            have hp := ownsRow_pop (by rw [List.length_map, Nat.mul_one]) ho
            clear ho hle
            go_wp2
            go_roundw
            case rel => exact ⟨k + 1, by omega, by go_num, by rw [HL.out, HD2.out], by rw [HK.out, HS2.out, HS3.out]; exact hp, hbw⟩
            case measure => simp [RowKit.intOf]; omega
        · rw [decide_eq_false hy2] at t2
          by_cases hy1 : y = dotT
          · rw [decide_eq_true hy1] at t1
            have HD2 := Lib.hid (show isDots y = true by unfold isDots; rw [decide_eq_true hy1]; simp)
            have HS2 := Lib.hid (show keepOne kl y = kl by unfold keepOne; rw [if_neg hy2, if_pos hy1])
            clear hy1 hy2
            go_wp2
            go_roundw
            case rel => exact ⟨k + 1, by omega, by go_num, by rw [HL.out, HD2.out], by rw [HK.out, HS2.out]; exact ho, hbw⟩
            case measure => simp [RowKit.intOf]; omega
          · rw [decide_eq_false hy1] at t1
            have HD2 := Lib.hid (show isDots y = false by unfold isDots; rw [decide_eq_false hy1, decide_eq_false hy2]; rfl)
            have HS2 := Lib.hid (show keepOne kl y = kl ++ [y] by unfold keepOne; rw [if_neg hy2, if_neg hy1])
            clear hy1 hy2
            go_wp2_with (at_builtin; refine wpList_append_own _ rfl _ _ 41 rfl w1.heap.size 9 i0 (.string ⟨#[]⟩) 1 16 Tryz.underlying41 hi0 hz0 hz1 hz2 rfl (by decide) _ _ _ rfl (ho.alloc _) ⟨wr.heap.size, 0, none⟩ 1 1 [.string y] rfl rfl (cell_one_new _ _ _) ?c1 ?c2 ?c3 ?c4 ?c5)
            case c1 => exact strs_oneCell [_]
            case c2 => unfold maxLen; omega
            case c3 => omega
            case c4 => simp; have := hbw.size; omega
            case c5 =>
              intro v' w2 hown2 hg2 _
              have hb2 : Below w1.heap.size w1 w2 := (hbw.alloc hbw.size _).grown hg2 (by simp; have := hbw.size; omega) (own_lt ho)
              have ho2 : w2.ownsRow w1.heap.size 9 1 v' (kl ++ [y]).length ((kl ++ [y]).map .string) := by
                rw [List.length_append, List.map_append]
                exact hown2
              clear hown2 hg2 ho
              go_wp2
              go_roundw
              case rel => exact ⟨k + 1, by omega, by go_num, by rw [HL.out, HD2.out], by rw [HK.out, HS2.out]; exact ho2, hb2⟩
              case measure => simp [RowKit.intOf]; omega
      · obtain rfl : k = l.length := by omega
        rw [List.take_length] at *
        have hbv : Below w1.heap.size w1 wr := hbw
        cases hld : lastDots false l
        · have hkr : keepAll [] l = keptR l := by unfold keptR; rw [if_neg (by rw [hld]; simp)]
          rw [hkr] at ho
          clear hkr
          generalize hkp : keptR l = kept at *
          have HKR := Lib.hid hkp
          clear hkp
          have hpos := List.length_pos_iff.2 HNE.out
          obtain ⟨g, cap, hv, hgb, _⟩ := ho.form hpos
          subst hv
          clear HNE hpos
          obtain ⟨xo, rfl⟩ : ∃ xo : World, xo = wr := ⟨_, rfl⟩
          go_wp2
          go_loopw [8, 9] (fun v i wr => ∃ k : Nat, k ≤ kept.length ∧ i = .int .i64 k ∧ OwnB wr w1.heap.size v (slashAll (kept.take k)) ∧ Below w1.heap.size w1 wr ∧ wr.ownsRow w1.heap.size 9 1 (.slice (some ⟨g, 0, none⟩) kept.length cap) kept.length (kept.map .string)) (fun _ i _ => kept.length - (RowKit.intOf i).toNat)
          case atStart => exact ⟨0, by omega, rfl, own_under (own_empty xo) hbv.size, hbv.alloc hbv.size _, ho.alloc _⟩
          case round =>
            obtain ⟨k, hk, rfl, ho1, hbw1, hkept⟩ := hrel
            have hsum := sum_take kept k
            have hsl := slashAll_len (kept.take k)
            by_cases hlt : k < kept.length
            · obtain ⟨x, hx⟩ := some_of_lt hlt
              have hxz : x.size ≤ 4194305 := by
                have := sumS_mem (List.mem_of_getElem? hx)
                omega
              have hap := apart_types ho1 hkept (by decide)
              have hgl := own_blt hkept g rfl
              have hc : wr.cell? ⟨g, k, none⟩ = some (.string x) := by
                rw [hkept.cellAt k (by omega), List.getElem?_map, hx]
                rfl
              have hne : some (⟨g, k, none⟩ : Addr).block ≠ u8.ownBlock := fun e => hap g e.symm rfl
              have HT := Lib.hid (slash_take hx)
              clear hx
              generalize slashAll (kept.take k) = acc at *
              unfold OwnB at ho1
              go_wp2_with fail
              go_region_held3 (fun w' => w'.cell? ⟨g, k, none⟩ = some (.string x)) (first | assumption | go_keep | (rw [cell_far hg2 _ (by simp; omega) hne]; assumption) | (rw [cell_far hg3 _ hgl2 hne2]; assumption)) (first | (refine step_append_any _ rfl (.tmp 71) (.tmp 72) 82 rfl w1.heap.size 5 j0 (.int .u8 0) 1 1 Tryz.underlying82 hj0 hy0 hy1 hy2 rfl (by decide) _ _ _ (by rfl) (ho1.drew.alloc _) _ (some ⟨wr.heap.size, 0, none⟩) 1 1 [byteV 47] (by rfl) (reads_of_row ((row_newc _ _ _ rfl).drew) rfl (by decide)) (bytes_oneCell [47]) (by unfold maxLen; omega) (by omega) (by have := hbw1.size; simp; omega) ?_; intro v' w2 hown2 hg2 _; have hk2' := own_other ((World.ownsRow.drew hkept).alloc _) hg2 hap; have hne2 : some g ≠ v'.ownBlock := fun e => (apart_types hown2 hk2' (by decide)) g e.symm rfl; have hgl2 := own_blt hk2' g rfl) | (refine step_append_own_string rfl (.tmp 73) (.tmp 77) 82 9 rfl w1.heap.size 5 j0 Tryz.underlying82 Tryz.underlying9 hj0 hy0 hy1 hy2 _ _ _ (by rfl) hown2 x (by rfl) (by unfold maxLen; omega) (by omega) (by have := hg2.size; have := hbw1.size; simp at *; omega) ?_; intro v3 w3 hown3 hg3))
              all_goals
                have e1 : (acc ++ 47 :: x.data.toList).length = acc.length + 1 + x.size := by rw [List.length_append, List.length_cons, size_eq]; omega
                have e2 : (acc ++ 47 :: x.data.toList).map byteV = acc.map byteV ++ [byteV 47] ++ strCells x := by simp [strCells_eq]
                have ho3 : OwnB w3 w1.heap.size v3 (slashAll (kept.take (k + 1))) := by
                  unfold OwnB
                  rw [HT.out, e1, e2]
                  exact hown3
                have hb2 : Below w1.heap.size w1 w2 := (below_drew (hbw1.alloc hbw1.size _)).grown hg2 (by have := hbw1.size; simp; omega) (own_lt ho1)
                have hb3 : Below w1.heap.size w1 w3 := hb2.grown hg3 hb2.size (own_lt hown2)
                have hkept3 := own_other hk2' hg3 (apart_types hown2 hk2' (by decide))
                clear e1 e2 hown3 hg3 hk2' hown2 hg2 hne2 ho1 hne hap hkept hb2 hc
                go_wp2
                go_roundw
                case rel => exact ⟨k + 1, by omega, by go_num, ho3, hb3, hkept3⟩
                case measure => simp [RowKit.intOf]; omega
            · obtain rfl : k = kept.length := by omega
              rw [List.take_length] at ho1
              have hcv := ho1.conv
              go_wp2
              go_ret2
              exact ⟨by rw [HKR.out]; rfl, B1.trans (hbw1.mono B1.size)⟩
        · have hkr : keptR l = keepAll [] l ++ [⟨#[]⟩] := by unfold keptR; rw [if_pos hld]
          have HKQ := Lib.hid hkr
          clear hkr
          have hkl : (keepAll [] l).length ≤ 4194306 := by
            have h1 := (keepAll_sum l []).2
            simp only [List.length_nil] at h1
            omega
          generalize keepAll [] l = kl at *
          generalize hkp : keptR l = kept at *
          have HKR := Lib.hid hkp
          clear hkp
          go_wp2_with (at_builtin; refine wpList_append_own _ rfl _ _ 41 rfl w1.heap.size 9 i0 (.string ⟨#[]⟩) 1 16 Tryz.underlying41 hi0 hz0 hz1 hz2 rfl (by decide) _ _ _ rfl (ho.alloc _) ⟨wr.heap.size, 0, none⟩ 1 1 [.string ⟨#[]⟩] rfl rfl (cell_one_new _ _ _) ?e1 ?e2 ?e3 ?e4 ?e5)
          case e1 => exact strs_oneCell [_]
          case e2 => unfold maxLen; omega
          case e3 => omega
          case e4 => simp; have := hbw.size; omega
          case e5 =>
            intro v' w2 hown2 hg2 _
            have hb2v : Below w1.heap.size w1 w2 := (hbw.alloc hbw.size _).grown hg2 (by simp; have := hbw.size; omega) (own_lt ho)
            have ho2 : w2.ownsRow w1.heap.size 9 1 v' kept.length (kept.map .string) := by
              rw [HKQ.out, List.length_append, List.map_append]
              exact hown2
            clear hown2 hg2 ho hbv
            have hpos := List.length_pos_iff.2 HNE.out
            obtain ⟨g, cap, hv, hgb, _⟩ := ho2.form hpos
            subst hv
            clear HNE hpos
            obtain ⟨xo, rfl⟩ : ∃ xo : World, xo = w2 := ⟨_, rfl⟩
            go_wp2
            go_loopw [8, 9] (fun v i wr => ∃ k : Nat, k ≤ kept.length ∧ i = .int .i64 k ∧ OwnB wr w1.heap.size v (slashAll (kept.take k)) ∧ Below w1.heap.size w1 wr ∧ wr.ownsRow w1.heap.size 9 1 (.slice (some ⟨g, 0, none⟩) kept.length cap) kept.length (kept.map .string)) (fun _ i _ => kept.length - (RowKit.intOf i).toNat)
            case atStart => exact ⟨0, by omega, rfl, own_under (own_empty xo) hb2v.size, hb2v.alloc hb2v.size _, ho2.alloc _⟩
            case round =>
              obtain ⟨k, hk, rfl, ho1, hbw1, hkept⟩ := hrel
              have hsum := sum_take kept k
              have hsl := slashAll_len (kept.take k)
              by_cases hlt : k < kept.length
              · obtain ⟨x, hx⟩ := some_of_lt hlt
                have hxz : x.size ≤ 4194305 := by
                  have := sumS_mem (List.mem_of_getElem? hx)
                  omega
                have hap := apart_types ho1 hkept (by decide)
                have hgl := own_blt hkept g rfl
                have hc : wr.cell? ⟨g, k, none⟩ = some (.string x) := by
                  rw [hkept.cellAt k (by omega), List.getElem?_map, hx]
                  rfl
                have hne : some (⟨g, k, none⟩ : Addr).block ≠ u8.ownBlock := fun e => hap g e.symm rfl
                have HT := Lib.hid (slash_take hx)
                clear hx
                generalize slashAll (kept.take k) = acc at *
                unfold OwnB at ho1
                go_wp2_with fail
                go_region_held3 (fun w' => w'.cell? ⟨g, k, none⟩ = some (.string x)) (first | assumption | go_keep | (rw [cell_far hg2 _ (by simp; omega) hne]; assumption) | (rw [cell_far hg3 _ hgl2 hne2]; assumption)) (first | (refine step_append_any _ rfl (.tmp 71) (.tmp 72) 82 rfl w1.heap.size 5 j0 (.int .u8 0) 1 1 Tryz.underlying82 hj0 hy0 hy1 hy2 rfl (by decide) _ _ _ (by rfl) (ho1.drew.alloc _) _ (some ⟨wr.heap.size, 0, none⟩) 1 1 [byteV 47] (by rfl) (reads_of_row ((row_newc _ _ _ rfl).drew) rfl (by decide)) (bytes_oneCell [47]) (by unfold maxLen; omega) (by omega) (by have := hbw1.size; simp; omega) ?_; intro v' w2 hown2 hg2 _; have hk2' := own_other ((World.ownsRow.drew hkept).alloc _) hg2 hap; have hne2 : some g ≠ v'.ownBlock := fun e => (apart_types hown2 hk2' (by decide)) g e.symm rfl; have hgl2 := own_blt hk2' g rfl) | (refine step_append_own_string rfl (.tmp 73) (.tmp 77) 82 9 rfl w1.heap.size 5 j0 Tryz.underlying82 Tryz.underlying9 hj0 hy0 hy1 hy2 _ _ _ (by rfl) hown2 x (by rfl) (by unfold maxLen; omega) (by omega) (by have := hg2.size; have := hbw1.size; simp at *; omega) ?_; intro v3 w3 hown3 hg3))
                all_goals
                  have e1 : (acc ++ 47 :: x.data.toList).length = acc.length + 1 + x.size := by rw [List.length_append, List.length_cons, size_eq]; omega
                  have e2 : (acc ++ 47 :: x.data.toList).map byteV = acc.map byteV ++ [byteV 47] ++ strCells x := by simp [strCells_eq]
                  have ho3 : OwnB w3 w1.heap.size v3 (slashAll (kept.take (k + 1))) := by
                    unfold OwnB
                    rw [HT.out, e1, e2]
                    exact hown3
                  have hb2 : Below w1.heap.size w1 w2 := (below_drew (hbw1.alloc hbw1.size _)).grown hg2 (by have := hbw1.size; simp; omega) (own_lt ho1)
                  have hb3 : Below w1.heap.size w1 w3 := hb2.grown hg3 hb2.size (own_lt hown2)
                  have hkept3 := own_other hk2' hg3 (apart_types hown2 hk2' (by decide))
                  clear e1 e2 hown3 hg3 hk2' hown2 hg2 hne2 ho1 hne hap hkept hb2 hc
                  go_wp2
                  go_roundw
                  case rel => exact ⟨k + 1, by omega, by go_num, ho3, hb3, hkept3⟩
                  case measure => simp [RowKit.intOf]; omega
              · obtain rfl : k = kept.length := by omega
                rw [List.take_length] at ho1
                have hcv := ho1.conv
                go_wp2
                go_ret2
                exact ⟨by rw [HKR.out]; rfl, B1.trans (hbw1.mono B1.size)⟩
end Go.Proofs.YtjlnbjlhlglneaaGreatDoor
