/-
  The walk of RadixMemory.
-/
import Derived.Test.YtkhgnfofinpofaaRxOp
import Derived.Test.YtkhgnfofinpofaaRxLawChecks
import Derived.Test.YtkhgnfofinpofaaTgMp
import Derived.Test.YtkhgnfofinpofaaTgDn
namespace Go.Proofs.Ytkhgnfofinpofaa
open Go.RowKit Go.Shelf Go.Lib

theorem info_prms : (Try.prog.info? 37).map (fun i => (i.zero, i.size, i.bytes)) = some (some (.slice none 0 0), 1, 24) := by kernel_rfl
theorem itoaM_len {n : Int} (h0 : -9223372036854775808 ≤ n) (h1 : n ≤ 9223372036854775807) : (Lib.itoa n).length ≤ 21 := by
  have h := Lib.nDigits_le20 n.natAbs (by omega)
  have h2 := Lib.nDigits_le20 n.toNat (by omega)
  unfold Lib.itoa
  split
  · rw [List.length_cons, Lib.decDigits_length]; omega
  · rw [Lib.decDigits_length]; omega
theorem itoaM_small (n : Int) (h0 : -9223372036854775808 ≤ n) (h1 : n ≤ 9223372036854775807) : (itoaT n).size ≤ 4194304 := by
  have h := itoaM_len h0 h1
  rw [← size_eq]
  show (Lib.itoa n).length ≤ _
  omega
theorem sumM_take {l : List ByteArray} {k : Nat} {x : ByteArray} (h : l[k]? = some x) : sumS (l.take (k + 1)) + (k + 1) = sumS (l.take k) + k + (x.size + 1) := by
  rw [take_snoc h, sumS_append, sumS_cons]
  show _ + (x.size + 0) + _ = _
  omega
theorem sumM_take_le (l : List ByteArray) (k : Nat) : sumS (l.take k) ≤ sumS l := by
  have h := sumS_append (l.take k) (l.drop k)
  rw [List.take_append_drop] at h
  omega
/-- What is written into the lists. -/
def markT : ByteArray := ⟨#[109, 97, 114, 107]⟩
def mk1 (a j : Nat) : ByteArray := markT ++ itoaT ((100 * a + j : Nat) : Int)
def mk2 (a j : Nat) : Pr := (mk1 a j, ⟨#[]⟩, false)
theorem flat3_set (p : Pr) : ∀ {l : List Pr} {k : Nat}, k < l.length → (((flat3 l).set (k * 3) (.string p.1)).set (k * 3 + 1) (.string p.2.1)).set (k * 3 + 2) (.bool p.2.2) = flat3 (l.set k p)
  | [], k, h => by simp at h
  | q :: l, 0, _ => rfl
  | q :: l, k + 1, h => by
    have ih := flat3_set p (l := l) (k := k) (by simpa using h)
    have e : flat3 (q :: l) = .string q.1 :: .string q.2.1 :: .bool q.2.2 :: flat3 l := rfl
    have e2 : flat3 ((q :: l).set (k + 1) p) = .string q.1 :: .string q.2.1 :: .bool q.2.2 :: flat3 (l.set k p) := rfl
    rw [e, e2, ← ih, show (k + 1) * 3 = k * 3 + 1 + 1 + 1 by omega, show k * 3 + 1 + 1 + 1 + 1 = (k * 3 + 1) + 1 + 1 + 1 from rfl, show k * 3 + 1 + 1 + 1 + 2 = (k * 3 + 2) + 1 + 1 + 1 from rfl]
    simp only [List.set_cons_succ]
theorem alt_new {w w7 : World} {o : Obj} {v v' : Value} (h : (v'.ownBlock = v.ownBlock ∧ ¬ v.ownBlock = none) ∨ (v'.ownBlock = some (w.heap.size + 1) ∧ (w.alloc o).grownBy w7 none)) : (v'.ownBlock = v.ownBlock ∧ v.ownBlock ≠ none) ∨ (v'.ownBlock = some (w.alloc o).heap.size ∧ (w.alloc o).grownBy w7 none) := by
  rcases h with h | ⟨h1, h2⟩
  · exact .inl h
  · exact .inr ⟨by rw [h1]; simp, h2⟩
/-- Six lists, n values each; the first k marked whole. -/
structure SixG (mk : Nat → Nat → Pr) (n : Nat) (vals : List Value) (ps : List (Value × List Pr)) (k : Nat) : Prop where
  len : ps.length = 6
  map : ps.map (·.1) = vals
  sz : ∀ (i : Nat) p, ps[i]? = some p → p.2.length = n
  done : ∀ (a : Nat) p, a < k → ps[a]? = some p → ∀ (j : Nat) x, p.2[j]? = some x → x = mk a j
section
variable {mk : Nat → Nat → Pr} {n k : Nat} {vals : List Value} {ps : List (Value × List Pr)}
theorem SixG.set {u : Value} {fs fs' : List Pr} (h : SixG mk n vals ps k) (hp : ps[k]? = some (u, fs)) (hm : MidG (mk k) n n fs') : SixG mk n vals (ps.set k (u, fs')) (k + 1) := by
  have hkl := lt_of_some hp
  refine ⟨by rw [List.length_set]; exact h.len, ?_, fun i p hp' => ?_, fun a p ha hp' => ?_⟩
  · rw [List.map_set, h.map]
    apply List.ext_getElem?
    intro j
    by_cases e : k = j
    · subst e
      rw [List.getElem?_set, if_pos rfl, ← h.map, List.length_map, if_pos hkl, List.getElem?_map, hp]
      rfl
    · rw [List.getElem?_set_ne e]
  · rcases set_get hp' with ⟨_, rfl⟩ | ⟨_, hi⟩
    · exact hm.len
    · exact h.sz i p hi
  · rcases set_get hp' with ⟨rfl, rfl⟩ | ⟨hne, hp'⟩
    · intro j x hx
      exact hm.done j x (by have := lt_of_some hx; have hl := hm.len; simp only at this; omega) hx
    · exact h.done a p (by omega) hp'
theorem SixG.at_ (h : SixG mk n vals ps k) {j : Nat} (hj : j < 6) : ∃ u fs, ps[j]? = some (u, fs) ∧ vals[j]? = some u ∧ fs.length = n := by
  obtain ⟨⟨u, fs⟩, hp⟩ := some_of_lt (show j < ps.length by rw [h.len]; exact hj)
  exact ⟨u, fs, hp, by rw [← h.map, List.getElem?_map, hp]; rfl, h.sz _ _ hp⟩
end
/-- No rows of texts. -/
theorem t1_none (w : World) (base : Nat) : T1 w base (.slice none 0 0) [] [] := ⟨World.ownsRow_nil _ _ _ _, fun _ _ h => by simp at h, fun _ _ _ _ _ h => by simp at h⟩
/-- What Find and Fits answer. -/
structure Ans (es : List En) (path kp : ByteArray) (ls : List Prm) (ok : Bool) : Prop where
  fit : fitVal (fitsP kp path) = (ls, ok)
  len : ls.length ≤ 4194304
  find : (findE es path = none ∧ ok = false ∧ ls = [] ∧ kp = ⟨#[]⟩) ∨ ∃ (i : Nat) (x : En), findE es path = some i ∧ es[i]? = some x ∧ kp = x.1 ∧ ok = true
theorem ans_of {es : List En} (hg : GoodE es) (path : ByteArray) (hz : ∀ x ∈ es, x.1.size ≤ 4194304) : ∃ kp ls ok, Ans es path kp ls ok ∧ kp.size ≤ 4194304 := by
  cases h : findE es path with
  | none =>
    refine ⟨⟨#[]⟩, [], false, ⟨?_, Nat.zero_le _, .inl ⟨h, rfl, rfl, rfl⟩⟩, Nat.zero_le _⟩
    rfl
  | some i =>
    have h2 := h
    rw [findE_fit hg] at h2
    obtain ⟨hi, h3, _⟩ := List.findIdx?_eq_some_iff_getElem.1 h2
    have hlen := refFits_len es[i].1 path
    rw [ref_fits] at hlen
    have hzi := hz _ (List.getElem_mem hi)
    unfold fitB at h3
    refine ⟨es[i].1, (fitVal (fitsP es[i].1 path)).1, true, ⟨?_, by omega, .inr ⟨i, es[i], h, List.getElem?_eq_getElem hi, rfl, rfl⟩⟩, hzi⟩
    rw [← h3]
theorem find_as {w w' : World} {es : List En} {path kp : ByteArray} {ls : List Prm} {ok : Bool} {e : Ending} (ha : Ans es path kp ls ok) (h : GivesFind w es path (findE es path) e w') :
    ∃ fv fp A c, e = .returned (.tuple #[.int .i64 fv, .string fp, .slice A ls.length c, .bool ok]) ∧ w'.ownsRow w.heap.size 45 3 (.slice A ls.length c) ls.length (flat3 ls) ∧ Below w.heap.size w w' := by
  rcases ha.find with ⟨h1, rfl, rfl, rfl⟩ | ⟨i, x, h1, h2, rfl, rfl⟩
  · rcases h with ⟨_, rfl, hb⟩ | ⟨i, x, k1, _⟩
    · exact ⟨_, _, none, 0, rfl, World.ownsRow_nil _ _ _ _, hb⟩
    · rw [h1] at k1; cases k1
  · rcases h with ⟨k1, _⟩ | ⟨j, y, k1, k2, ⟨A, c, rfl, ho⟩, hb⟩
    · rw [h1] at k1; cases k1
    · rw [h1] at k1
      cases k1
      rw [h2] at k2
      cases k2
      have hf := ha.fit
      rw [hf] at ho ⊢
      exact ⟨_, _, A, c, rfl, ho, hb⟩
theorem rfind_as {w w' : World} {es : List En} {path kp : ByteArray} {ls : List Prm} {ok : Bool} {e : Ending} (ha : Ans es path kp ls ok) (h : GivesKf w es path (findE es path) e w') :
    ∃ kv B d, e = .returned (.tuple #[.agg #[.string kp, .int .i64 kv], .slice B ls.length d, .bool ok]) ∧ Row w' B (flat3 ls) ∧ Below w.heap.size w w' := by
  rcases ha.find with ⟨h1, rfl, rfl, rfl⟩ | ⟨i, x, h1, h2, rfl, rfl⟩
  · rcases h with ⟨_, ⟨B, rfl⟩, hb⟩ | ⟨i, x, k1, _⟩
    · exact ⟨_, B, 0, rfl, Row.nil _ _, hb⟩
    · rw [h1] at k1; cases k1
  · rcases h with ⟨k1, _⟩ | ⟨j, y, k1, k2, ⟨B, d, rfl, ho⟩, hb⟩
    · rw [h1] at k1; cases k1
    · rw [h1] at k1
      cases k1
      rw [h2] at k2
      cases k2
      have hf := ha.fit
      rw [hf] at ho ⊢
      exact ⟨_, B, d, rfl, ho, hb⟩
theorem fit_as {w w' : World} {r : Option (List Prm)} {ls : List Prm} {ok : Bool} {e : Ending} (h : GivesFit w r e w') (hf : fitVal r = (ls, ok)) :
    ∃ A c, e = .returned (.tuple #[.slice A ls.length c, .bool ok]) ∧ w'.ownsRow w.heap.size 45 3 (.slice A ls.length c) ls.length (flat3 ls) ∧ Below w.heap.size w w' := by
  obtain ⟨A, c, rfl, ho, hb⟩ := h
  rw [hf] at ho ⊢
  exact ⟨A, c, rfl, ho, hb⟩
set_option maxRecDepth 100000 in
set_option maxHeartbeats 16000000 in
theorem RadixMemory_walk (A : Option Addr) (c : Nat) (l : List ByteArray) (path : ByteArray) (w : World) (hr : Row w A (l.map .string)) (_hp : path.size ≤ maxLen) (hk : (sumS l + l.length) + path.size ≤ 1048576) (hg : Glob w) :
    Calls Try.prog 3 #[.slice A l.length c, .string path] w fun e w' => e = .returned (.bool true) ∧ Below w.heap.size w w' := by
  obtain ⟨j0, hj0, hy0, hy1, hy2⟩ := info_parts info_prms
  obtain ⟨l0, hl0, hv0, hv1, hv2⟩ := info_parts info_param
  have HN := Lib.hid (NewK w w (Below.refl _ _))
  have HG := Lib.hid hg
  have HR := Lib.hid hr
  have HTL := Lib.hid (sumM_take_le l)
  have hll : l.length ≤ 1048576 := by omega
  have hpz : path.size ≤ 1048576 := by omega
  have HSL := Lib.hid (show sumS l + l.length ≤ 1048576 by omega)
  clear hg hr hk _hp
  go_enter Try.func3, Try.ntmps3
  go_wp2_with fail
  refine HN.out.mono ?_
  rintro e w1 ⟨rfl, hK1, hb1⟩
  go_wp2_with fail
  refine (awake_any _ (HG.out.beyond hb1)).mono ?_
  rintro e w2 ⟨rfl, hb2⟩
  have hK2 := Lib.hid (hK1.below hb2)
  have hqw : w.heap.size ≤ w.heap.size + 1 := Nat.le_succ _
  clear HN hK1 hb1 hb2
  generalize w.heap.size + 1 = q at *
  go_wp2
  go_loopw [6, 7] (fun lv i wr => ∃ (k : Nat) (es : List En) (KA : Option Addr) (kc : Nat), k ≤ l.length ∧ i = .int .i64 (k : Int) ∧ lv = .slice KA es.length kc ∧ Hid (Kp w wr q es (sumS (l.take k) + k)) ∧ Hid (RowF (fun b => b ≠ q) wr KA (flatKV (keptE es)))) (fun _ i _ => l.length - (RowKit.intOf i).toNat)
  case atStart => exact ⟨0, [], _, _, by omega, rfl, rfl, Lib.hid (hK2.out.below ((Below.refl _ w2).alloc (Nat.le_refl _) _)), Lib.hid (fun h => absurd h (Nat.lt_irrefl 0))⟩
  case round =>
    obtain ⟨k, es, KA, kc, hkl, rfl, rfl, HK, HW⟩ := hrel
    clear hK2
    by_cases hlt : k < l.length
    · obtain ⟨x, hx⟩ := some_of_lt hlt
      have hkI : (k : Int) < (l.length : Int) := by omega
      obtain ⟨b, off, rfl, hb, hc0⟩ := HR.out.str hx
      have hc := (HK.out.base.cell (p := ⟨b, off + k, none⟩) hb).trans hc0
      have hst := sumM_take hx
      have h1 := HTL.out k
      have h2 := HTL.out (k + 1)
      have hsl := HSL.out
      have hxz := sumS_mem (List.mem_of_getElem? hx)
      have hsum := HK.out.sum
      have hel := sumE_len es
      have HI := Lib.hid (InsertK w wr q es _ x (k : Int) HK.out (by omega))
      have HKI := Lib.hid (fun W (h : Row W KA (flatKV (keptE es))) => rInsert_any KA kc es x (k : Int) W h HK.out.good (by omega) (fun y hy => by have := sumE_mem hy; omega) (by omega))
      have HST := Lib.hid hst
      clear hx hst h1 h2 hxz hsum hel
      go_wp2_with fail
      refine HI.out.mono ?_
      rintro e w3 ⟨code, es', rfl, hto, hK3, ht3⟩
      rw [← HST.out] at hK3
      have hc3 := (hK3.base.cell (p := ⟨b, off + k, none⟩) hb).trans hc0
      have hb3 : b < w3.heap.size := Nat.lt_of_lt_of_le hb hK3.base.size
      have HW3 := Lib.hid (HW.out.hold (ht3.hold (S := fun b => b ≠ q) (fun h => h rfl)))
      have hqs : q < w3.heap.size := hK3.lt
      have HK3 := Lib.hid hK3
      clear HI hK3 ht3 HK HW hc hc0
      go_wp2_with fail
      refine (HKI.out _ HW3.out.row).mono ?_
      intro e w4 hki
      obtain ⟨KA', kc', f, rfl, hrow, hb4⟩ := rIns_as hto hki HW3.out (fun b hb => by omega)
      have HK4 := Lib.hid (HK3.out.below hb4)
      have HW4 := Lib.hid hrow
      clear hki hto hrow hb4 HK3 HW3 HKI
      go_wp2
      go_roundw
      case rel => exact ⟨k + 1, es', KA', kc', by omega, by go_num, rfl, HK4, HW4⟩
      case measure => simp [RowKit.intOf]; omega
    · obtain rfl : k = l.length := by omega
      obtain ⟨xo, rfl⟩ : ∃ xo : World, xo = wr := ⟨_, rfl⟩
      have hKe := HK.out
      rw [List.take_length] at hKe
      have hsl := HSL.out
      have hsum := hKe.sum
      have hel := sumE_len es
      have hzz : ∀ x ∈ es, x.1.size ≤ 4194304 := fun x hx => by have := sumE_mem hx; omega
      obtain ⟨kp, ls, ok, HA, hkp⟩ := ans_of hKe.good path hzz
      have hn2 : ls.length ≤ 4194304 := HA.len
      have HRF := Lib.hid (fun W (h : Row W KA (flatKV (keptE es))) => rFind_any KA kc es path W h hKe.good (by omega) hzz (by omega))
      have HF := Lib.hid (fun W (h : Below xo.heap.size xo W) => FindK (w := W) path (hKe.below h) (by omega) (by omega) HG.out)
      have HFI := Lib.hid (fun W (h : Below xo.heap.size xo W) => Fits_any kp path W hkp (by omega) (HG.out.beyond (hKe.base.trans (h.mono hKe.base.size))))
      have HSZ := Lib.hid hKe.base
      clear hKe hsum hel hzz hsl HK
      go_wp2_with fail
      refine (HRF.out _ HW.out.row).mono ?_
      intro e w1 hrf
      obtain ⟨kv, WA, wc, rfl, hrw, hb1⟩ := rfind_as HA hrf
      have hbw : Below xo.heap.size xo (w1.alloc (.cells #[.string kp, .int .i64 kv] 32)) := hb1.alloc hb1.size _
      have hrw2 := hrw.below ((Below.refl w1.heap.size w1).alloc (Nat.le_refl _) (.cells #[.string kp, .int .i64 kv] 32))
      have hck : (w1.alloc (.cells #[.string kp, .int .i64 kv] 32)).cell? ⟨w1.heap.size, 0, none⟩ = some (.string kp) := by simp
      have hks : w1.heap.size < (w1.alloc (.cells #[.string kp, .int .i64 kv] 32)).heap.size := by simp
      clear hrf hrw hb1 HRF HW
      go_wp2
      generalize hw2 : w1.alloc (.cells #[.string kp, .int .i64 kv] 32) = w2 at *
      have hs12 : w2.heap.size = w1.heap.size + 1 := by rw [← hw2]; simp
      clear hw2
      generalize w1.heap.size = kb at *
      go_loopw [11, 12] (fun v i wr => ∃ (k : Nat) (ps : List (Value × List Pr)), k ≤ 3 ∧ i = .int .i64 k ∧ T2 wr w2.heap.size v (ps.map (·.1)) ps ∧ ps.length = 2 * k ∧ (∀ (a : Nat) p, ps[a]? = some p → p.2.length = ls.length) ∧ Below w2.heap.size w2 wr) (fun _ i _ => 3 - (RowKit.intOf i).toNat)
      case atStart => exact ⟨0, [], by omega, rfl, (by have h := TabG.start (fl := flat3) (SL := 37) (EL := 45) (sz := 3) w2 w2.heap.size (Nat.le_refl _); first | exact h | (rw [hs12] at h ⊢; exact h)), rfl, fun a p hp => by simp at hp, (Below.refl _ w2).alloc (Nat.le_refl _) _⟩
      case round =>
        clear hs12
        obtain ⟨k, ps, hkk, rfl, t2, hl2, hs2, hbr⟩ := hrel
        have HL := Lib.hid hl2
        have HS := Lib.hid hs2
        have hpk : ps.length ≤ 6 := by omega
        clear hl2 hs2
        by_cases hlt : k < 3
        · have hbx := hbw.trans (hbr.mono hbw.size)
          go_wp2_with fail
          refine (HF.out _ hbx).mono ?_
          intro e w3 hf3
          obtain ⟨fv, fp, A3, c3, rfl, o3, b3⟩ := find_as HA hf3
          have t2a := t2.pend b3 (fs := ls) o3 hbr.size
          have hb3 := hbr.trans (b3.mono hbr.size)
          have ra := own_row o3
          have hbx3 := hbw.trans (hb3.mono hbw.size)
          have hck3 := (hb3.cell (p := ⟨kb, 0, none⟩) hks).trans hck
          clear hf3 t2 b3 o3 hbr hbx
          go_wp2_with fail
          refine (HFI.out _ hbx3).mono ?_
          intro e w4 hf4
          obtain ⟨A4, c4, rfl, o4, b4⟩ := fit_as hf4 HA.fit
          have t2b := t2a.pend b4 (fs := ls) o4 hb3.size
          have hb4 := hb3.trans (b4.mono hb3.size)
          have ra4 := ra.below b4
          have rb4 := own_row o4
          have rw4 := hrw2.below hb4
          clear hf4 t2a b4 o4 hb3 ra hbx3 hck3
          have HPA := Lib.hid (params_same A3 WA c3 wc ls w4 ra4 rw4 (by omega))
          have HPB := Lib.hid (fun q => params_same A4 WA c4 wc ls (w4.drewN q) (rb4.drewN q) (rw4.drewN q) (by omega))
          clear ra4 rb4 rw4
          cases ok
          · go_wp2_with fail
            refine HPA.out.mono ?_
            rintro e w5 ⟨rfl, q5, rfl⟩
            have b6 : Below w4.heap.size w4 (w4.drewN q5) := below_drewN (Below.refl w4.heap.size w4) q5
            have t2c := (t2b.below b6).alloc (.cells #[.slice A3 ls.length c3, .slice A4 ls.length c4] 37)
            have hb6 := hb4.trans (b6.mono hb4.size)
            generalize hw6 : w4.drewN q5 = w6 at *
            clear t2b b6 hb4 hw6
            go_wp2_with (at_builtin; refine wpList_append_any _ rfl (.tmp 110) (.tmp 113) 36 rfl w2.heap.size 37 j0 (.slice none 0 0) 1 24 Try.underlying36 hj0 hy0 hy1 hy2 rfl (by decide) _ _ _ rfl t2c.own _ (some ⟨w6.heap.size, 0, none⟩) 2 2 [.slice A3 ls.length c3, .slice A4 ls.length c4] rfl (reads_of_row (row_newc w6 _ 37 rfl) rfl (by decide)) ?c11 ?c21 ?c31 ?c41 ?c51)
            case c11 =>
              intro u hu
              simp at hu
              rcases hu with rfl | rfl <;> rfl
            case c21 => rw [List.length_map]; unfold maxLen; omega
            case c31 => rw [List.length_map]; omega
            case c41 => simp; have := hb6.size; omega
            case c51 =>
              intro v' w7 hown7 hg7 _
              have hb7 : Below w2.heap.size w2 w7 := (hb6.alloc hb6.size _).grown hg7 (by simp; have := hb6.size; omega) (own_lt t2c.own)
              have t2d := t2c.grow (by decide) hg7 (vals' := (ps ++ [(Value.slice A3 ls.length c3, ls)] ++ [(Value.slice A4 ls.length c4, ls)]).map (·.1)) (v' := v') (by
                have e1 : (ps ++ [(Value.slice A3 ls.length c3, ls)] ++ [(Value.slice A4 ls.length c4, ls)]).map (·.1) = ps.map (·.1) ++ [Value.slice A3 ls.length c3, Value.slice A4 ls.length c4] := by simp
                rw [e1, List.length_append, List.length_map]
                exact hown7)
              have HT2 := Lib.hid t2d
              clear t2c t2d hown7 hg7 hb6
              go_wp2
              go_roundw
              case rel => exact ⟨k + 1, _, by omega, by go_num, HT2.out, by simp [HL.out]; omega, fun a p hp => by
                rcases snoc_get hp with hp | ⟨_, rfl⟩
                · rcases snoc_get hp with hp | ⟨_, rfl⟩
                  · exact HS.out a p hp
                  · rfl
                · rfl, hb7⟩
              case measure => simp [RowKit.intOf]; omega
          · go_wp2_with fail
            refine HPA.out.mono ?_
            rintro e w5 ⟨rfl, q5, rfl⟩
            have HP1 := Lib.hid (HPB.out q5)
            go_wp2_with fail
            refine HP1.out.mono ?_
            rintro e w6 ⟨rfl, q6, rfl⟩
            have b6 : Below w4.heap.size w4 ((w4.drewN q5).drewN q6) := below_drewN (below_drewN (Below.refl w4.heap.size w4) q5) q6
            have t2c := (t2b.below b6).alloc (.cells #[.slice A3 ls.length c3, .slice A4 ls.length c4] 37)
            have hb6 := hb4.trans (b6.mono hb4.size)
            generalize hw6 : (w4.drewN q5).drewN q6 = w6 at *
            clear t2b b6 hb4 hw6
            go_wp2_with (at_builtin; refine wpList_append_any _ rfl (.tmp 110) (.tmp 113) 36 rfl w2.heap.size 37 j0 (.slice none 0 0) 1 24 Try.underlying36 hj0 hy0 hy1 hy2 rfl (by decide) _ _ _ rfl t2c.own _ (some ⟨w6.heap.size, 0, none⟩) 2 2 [.slice A3 ls.length c3, .slice A4 ls.length c4] rfl (reads_of_row (row_newc w6 _ 37 rfl) rfl (by decide)) ?c12 ?c22 ?c32 ?c42 ?c52)
            case c12 =>
              intro u hu
              simp at hu
              rcases hu with rfl | rfl <;> rfl
            case c22 => rw [List.length_map]; unfold maxLen; omega
            case c32 => rw [List.length_map]; omega
            case c42 => simp; have := hb6.size; omega
            case c52 =>
              intro v' w7 hown7 hg7 _
              have hb7 : Below w2.heap.size w2 w7 := (hb6.alloc hb6.size _).grown hg7 (by simp; have := hb6.size; omega) (own_lt t2c.own)
              have t2d := t2c.grow (by decide) hg7 (vals' := (ps ++ [(Value.slice A3 ls.length c3, ls)] ++ [(Value.slice A4 ls.length c4, ls)]).map (·.1)) (v' := v') (by
                have e1 : (ps ++ [(Value.slice A3 ls.length c3, ls)] ++ [(Value.slice A4 ls.length c4, ls)]).map (·.1) = ps.map (·.1) ++ [Value.slice A3 ls.length c3, Value.slice A4 ls.length c4] := by simp
                rw [e1, List.length_append, List.length_map]
                exact hown7)
              have HT2 := Lib.hid t2d
              clear t2c t2d hown7 hg7 hb6
              go_wp2
              go_roundw
              case rel => exact ⟨k + 1, _, by omega, by go_num, HT2.out, by simp [HL.out]; omega, fun a p hp => by
                rcases snoc_get hp with hp | ⟨_, rfl⟩
                · rcases snoc_get hp with hp | ⟨_, rfl⟩
                  · exact HS.out a p hp
                  · rfl
                · rfl, hb7⟩
              case measure => simp [RowKit.intOf]; omega
        · have hk3 : ¬ (k : Int) < 3 := by omega
          have e3 : k = 3 := by omega
          have W2 : SixG mk2 ls.length (ps.map (·.1)) ps 0 := ⟨by rw [HL.out, e3], rfl, HS.out, fun a p h _ => by omega⟩
          have hvl2 : (ps.map (·.1)).length = 6 := by rw [List.length_map, HL.out, e3]
          clear e3 HL HS hpk
          obtain ⟨x9, rfl⟩ : ∃ x9 : World, x9 = wr := ⟨_, rfl⟩
          obtain ⟨k1, rfl⟩ : ∃ k1 : Nat, k1 = k := ⟨_, rfl⟩
          generalize ps.map (·.1) = vals2 at *
          have HV2 := Lib.hid hvl2
          obtain ⟨V2, cV2, rfl⟩ := own_slice t2.own
          rw [hvl2] at t2 ⊢
          clear hvl2
          obtain ⟨g2, rfl, hgb2, _⟩ := own_some (show x9.ownsRow w2.heap.size 37 1 (.slice V2 6 cV2) 6 vals2 by have h := t2.own; rw [HV2.out] at h; exact h) (by omega)
          go_wp2
          go_loopw [19] (fun i wr => ∃ (k : Nat) (ps : List (Value × List Pr)), k ≤ 6 ∧ i = .int .i64 k ∧ T2 wr w2.heap.size (.slice (some ⟨g2, 0, none⟩) 6 cV2) vals2 ps ∧ SixG mk2 ls.length vals2 ps k ∧ Below w2.heap.size w2 wr) (fun i _ => 6 - (RowKit.intOf i).toNat)
          case atStart => exact ⟨0, ps, by omega, rfl, t2, W2, hbr⟩
          case round =>
            clear t2 W2 hbr hlt hkk hk3
            obtain ⟨k, ps, hkk, rfl, t2, W2, hbr⟩ := hrel
            by_cases hlt : k < 6
            · have hd3 : decide ((k : Int) < 6) = true := decide_eq_true (by omega)
              obtain ⟨u2, fs2, hp2, hvu2, hf2⟩ := W2.at_ hlt
              obtain ⟨U2, cU2, rfl⟩ := own_slice (t2.at_ hp2)
              rw [hf2] at hp2 hvu2
              have HP2 := Lib.hid hp2
              have HU2 := Lib.hid hvu2
              have HW2 := Lib.hid W2
              have HF2 := Lib.hid hf2
              clear hp2 hvu2 W2 hf2
              obtain ⟨xp, rfl⟩ : ∃ xp : World, xp = wr := ⟨_, rfl⟩
              go_wp2
              go_loopw [20] (fun i wr => ∃ (j : Nat) (fs' : List Pr), j ≤ ls.length ∧ i = .int .i64 j ∧ T2 wr w2.heap.size (.slice (some ⟨g2, 0, none⟩) 6 cV2) vals2 (ps.set k (.slice U2 ls.length cU2, fs')) ∧ MidG (mk2 k) ls.length j fs' ∧ Below w2.heap.size w2 wr) (fun i _ => ls.length - (RowKit.intOf i).toNat)
              case atStart => exact ⟨0, fs2, by omega, rfl, by rw [set_same HP2.out]; exact t2, MidG.zero HF2.out, hbr⟩
              case round =>
                clear t2 hbr
                obtain ⟨j, fs', hjj, rfl, t2, hM, hbr⟩ := hrel
                have own2 : wr.ownsRow w2.heap.size 37 1 (.slice (some ⟨g2, 0, none⟩) 6 cV2) 6 vals2 := by have h := t2.own; rw [HV2.out] at h; exact h
                have hc2 : wr.cell? ⟨g2, k, none⟩ = some (.slice U2 ls.length cU2) := (own2.cellAt k (by omega)).trans HU2.out
                have hgl2 : g2 < wr.heap.size := own_blt own2 g2 rfl
                by_cases hjt : j < ls.length
                · have HMS := Lib.hid (hM.succ (mk := mk2 k))
                  have HML := Lib.hid hM.len
                  clear hM
                  have hown0 := t2.at_ (set_at HP2.out)
                  rw [HML.out] at hown0
                  obtain ⟨g, rfl, hgb, hgl⟩ := own_some hown0 (by omega)
                  obtain ⟨⟨x, y, z⟩, hy⟩ := some_of_lt (show j < fs'.length by rw [HML.out]; exact hjt)
                  have HFG := Lib.hid (flat3_get hy)
                  have HFS := Lib.hid (flat3_set (mk2 k j) (lt_of_some hy))
                  clear hy
                  obtain ⟨dg, hdg⟩ : ∃ dg, dg = itoaT (100 * (k : Int) + (j : Int)) := ⟨_, rfl⟩
                  have hdz : dg.size ≤ 4194304 := by rw [hdg]; exact itoaM_small _ (by omega) (by omega)
                  have HD := Lib.hid (fun w => rDigits_any (100 * (k : Int) + (j : Int)) w (by omega) (by omega))
                  rw [← hdg] at HD
                  have HMK := Lib.hid (show mk2 k j = (⟨#[109, 97, 114, 107]⟩ ++ dg, ⟨#[]⟩, false) by rw [hdg]; unfold mk2 mk1; rw [show ((100 * k + j : Nat) : Int) = 100 * (k : Int) + (j : Int) by omega]; rfl)
                  clear hdg
                  have hwr1 : IntKind.i64.wrap (100 * (k : Int)) = 100 * (k : Int) := IntWalk.i64_in _ (by omega)
                  have hwr2 : IntKind.i64.wrap (100 * (k : Int) + (j : Int)) = 100 * (k : Int) + (j : Int) := IntWalk.i64_in _ (by omega)
                  have hno : ¬ 9223372036854775807 < 4 + dg.size := by omega
                  have HT2 := Lib.hid t2
                  have HS := Lib.hid (fun (w' : World) (h : Below wr.heap.size wr w') => (h.cell (p := ⟨g2, k, none⟩) hgl2).trans hc2)
                  have hgne : g2 ≠ g := fun e => apart_types own2 hown0 (by decide) g2 rfl (by rw [e]; rfl)
                  have hgne' : g ≠ g2 := Ne.symm hgne
                  have hki3 : (k : Int) < 6 := by omega
                  clear t2 own2
                  go_wp2_with fail
                  go_region_held3 (fun w' => w'.cell? ⟨g2, k, none⟩ = some (.slice (some ⟨g, 0, none⟩) ls.length cU2)) (first | assumption | exact HS.out _ hbC | (rw [World.cell?_setCell_far _ _ _ _ hgne', World.cell?_setCell_far _ _ _ _ hgne', World.cell?_setCell_far _ _ _ _ hgne']; exact HS.out _ hbC) | go_keep) (first | (go_at_call 18; (with_reducible refine (HD.out _).mono ?_); rintro e w3 ⟨rfl, b3⟩; have hbC : Below wr.heap.size wr w3 := (below_drew (Below.refl wr.heap.size wr)).trans (b3.mono (by simp)); have hown3 := own_below hown0 hbC; obtain ⟨hs1, hs2⟩ := hown3.stored (j * 3) (.string (⟨#[109, 97, 114, 107]⟩ ++ dg)); obtain ⟨hs3, hs4⟩ := hs1.stored (j * 3 + 1) (.string ⟨#[]⟩); obtain ⟨hs5, hs6⟩ := hs3.stored (j * 3 + 2) (.bool false); have hq0 : w3.cell? ⟨g, j * 3, none⟩ = some (.string x) := (hown3.cellAt (j * 3) (by omega)).trans HFG.out.1; have hq1 : (w3.setCell ⟨g, j * 3, none⟩ (.string (⟨#[109, 97, 114, 107]⟩ ++ dg))).cell? ⟨g, j * 3 + 1, none⟩ = some (.string y) := (hs1.cellAt (j * 3 + 1) (by omega)).trans ((List.getElem?_set_ne (by omega)).trans HFG.out.2.1); have hq2 : ((w3.setCell ⟨g, j * 3, none⟩ (.string (⟨#[109, 97, 114, 107]⟩ ++ dg))).setCell ⟨g, j * 3 + 1, none⟩ (.string ⟨#[]⟩)).cell? ⟨g, j * 3 + 2, none⟩ = some (.bool z) := (hs3.cellAt (j * 3 + 2) (by omega)).trans ((List.getElem?_set_ne (by omega)).trans ((List.getElem?_set_ne (by omega)).trans HFG.out.2.2)); have hf0 : w3.frozen? ⟨g, j * 3, none⟩ = false := hown3.frozenAt _; have hf1 : (w3.setCell ⟨g, j * 3, none⟩ (.string (⟨#[109, 97, 114, 107]⟩ ++ dg))).frozen? ⟨g, j * 3 + 1, none⟩ = false := hs1.frozenAt _; have hf2 : ((w3.setCell ⟨g, j * 3, none⟩ (.string (⟨#[109, 97, 114, 107]⟩ ++ dg))).setCell ⟨g, j * 3 + 1, none⟩ (.string ⟨#[]⟩)).frozen? ⟨g, j * 3 + 2, none⟩ = false := hs3.frozenAt _))
                  all_goals
                    have hfl : (((flat3 fs').set (j * 3) (.string (⟨#[109, 97, 114, 107]⟩ ++ dg))).set (j * 3 + 1) (.string ⟨#[]⟩)).set (j * 3 + 2) (.bool false) = flat3 (fs'.set j (mk2 k j)) := by
                      have h := HFS.out
                      rw [HMK.out] at h ⊢
                      exact h
                    have hls : (fs'.set j (mk2 k j)).length = ls.length := HMS.out.len
                    have hsg := (hs2.trans hs4).trans hs6
                    have hbD := hbr.trans (hbC.mono hbr.size)
                    have hb5 := hbD.grown hsg hbD.size (fun k hk => by injection hk with hk; omega)
                    rw [hfl] at hs5
                    have t2b := (HT2.out.below hbC).turn (by decide) (set_at HP2.out) hsg (fs' := fs'.set j (mk2 k j)) (by rw [hls]; exact hs5)
                    rw [List.set_set] at t2b
                    have HT2b := Lib.hid t2b
                    have HB5 := Lib.hid hb5
                    clear t2b hb5 hls hfl hsg hs1 hs2 hs3 hs4 hs5 hs6 hown3 hbC hbD hq0 hq1 hq2 hf0 hf1 hf2 b3
                    go_wp2
                    go_roundw
                    case rel => exact ⟨j + 1, _, by omega, by go_num, HT2b.out, HMS.out, HB5.out⟩
                    case measure => simp [RowKit.intOf]; omega
                · obtain rfl : j = ls.length := by omega
                  have HW2b := Lib.hid (HW2.out.set HP2.out hM)
                  clear hM own2
                  go_wp2
                  go_roundw
                  case rel => exact ⟨k + 1, _, by omega, by go_num, t2, HW2b.out, hbr⟩
                  case measure => simp [RowKit.intOf]; omega
            · have hk3 : ¬ (k : Int) < 6 := by omega
              obtain ⟨x10, rfl⟩ : ∃ x10 : World, x10 = wr := ⟨_, rfl⟩
              have hk23 : k = 6 := by omega
              have HW2 := Lib.hid (show SixG mk2 ls.length vals2 ps 6 by rw [← hk23]; exact W2)
              obtain ⟨k2, rfl⟩ : ∃ k2 : Nat, k2 = k := ⟨_, rfl⟩
              have HO2 := Lib.hid (show x10.ownsRow w2.heap.size 37 1 (.slice (some ⟨g2, 0, none⟩) 6 cV2) 6 vals2 by have h := t2.own; rw [HV2.out] at h; exact h)
              have HT2 := Lib.hid t2
              have HT1 := Lib.hid (t1_none x10 w2.heap.size)
              have HX := Lib.hid hbr
              have HXL := Lib.hid hbr.size
              clear W2 t2 hk23 hbr hlt hkk
              go_wp2
              go_loopw [21] (fun i wr => ∃ (k : Nat), k ≤ 6 ∧ i = .int .i64 k ∧ Aft x10 wr [] ps k ∧ Below w2.heap.size w2 wr) (fun i _ => 6 - (RowKit.intOf i).toNat)
              case atStart => exact ⟨0, by omega, rfl, Aft.refl _ _ _ _, HX.out⟩
              case round =>
                clear hk3
                obtain ⟨k, hkk, rfl, ha, hbr⟩ := hrel
                by_cases hlt : k < 6
                · have hd3 : decide ((k : Int) < 6) = true := decide_eq_true (by omega)
                  obtain ⟨u2, fs2, hp2, hvu2, hf2⟩ := HW2.out.at_ hlt
                  obtain ⟨U2, cU2, rfl⟩ := own_slice (HT2.out.at_ hp2)
                  rw [hf2] at hp2 hvu2
                  have own2 := ha.own HO2.out (free_of_type HT1.out HT2.out HO2.out (by decide) (by decide) _)
                  have hc2 : wr.cell? ⟨g2, k, none⟩ = some (.slice U2 ls.length cU2) := (own2.cellAt k (by omega)).trans hvu2
                  have OR2 := Lib.hid (show wr.ownsRow w2.heap.size 45 3 (.slice U2 ls.length cU2) ls.length (flat3 fs2) by
                    have h := ha.own (HT2.out.at_ hp2) (free_row2 HT1.out HT2.out hp2)
                    rw [hf2] at h
                    exact h)
                  have HP2 := Lib.hid hp2
                  have HF2 := Lib.hid hf2
                  have HA1 := Lib.hid (ha.mono (Nat.le_succ k))
                  have HB := Lib.hid hbr
                  clear hp2 hf2 hvu2 own2 ha hbr
                  obtain ⟨xo3, rfl⟩ : ∃ xo3 : World, xo3 = wr := ⟨_, rfl⟩
                  go_wp2
                  go_loopw [22, 23] (fun h i wr => ∃ (c : Nat) (xs2 : List Value), c ≤ 20 ∧ i = .int .i64 c ∧ wr.ownsRow w2.heap.size 45 3 h (ls.length + c) xs2 ∧ (∀ b, h.ownBlock = some b → b < x10.heap.size → (Value.slice U2 ls.length cU2).ownBlock = some b) ∧ Aft x10 wr [] ps (k + 1) ∧ Below w2.heap.size w2 wr) (fun _ i _ => 20 - (RowKit.intOf i).toNat)
                  case atStart => exact ⟨0, _, by omega, rfl, OR2.out, fun b hb _ => hb, HA1.out, HB.out⟩
                  case round =>
                    clear hc2
                    obtain ⟨c, xs2, hcc, rfl, ob, hat2, ha, hbr⟩ := hrel
                    have HAT2 := Lib.hid hat2
                    have HA2 := Lib.hid ha
                    have HB2 := Lib.hid hbr
                    have HBL := hbr.size
                    clear hat2 ha hbr
                    by_cases hct : c < 20
                    · have obB := own_below ob ((Below.refl wr.heap.size wr).alloc (Nat.le_refl _) (.cells #[.string ⟨#[103, 114, 111, 119, 110]⟩, .string ⟨#[]⟩, .bool false] 45))
                      clear ob
                      go_wp2_with (at_builtin; refine wpList_append_keep _ rfl (.tmp 157) (.tmp 159) 37 rfl w2.heap.size 45 l0 (.agg #[.string ⟨#[]⟩, .string ⟨#[]⟩, .bool false]) 3 40 Try.underlying37 hl0 hv0 hv1 hv2 rfl (by decide) _ _ _ rfl obB ⟨wr.heap.size, 0, none⟩ 1 1 [.string ⟨#[103, 114, 111, 119, 110]⟩, .string ⟨#[]⟩, .bool false] rfl rfl (cells_new3 wr _ _ _ 45 rfl) ?e1 (by decide) ?e2 ?e3 ?e4 ?e5)
                      case e1 =>
                        intro u hu
                        simp at hu
                        rcases hu with rfl | rfl | rfl <;> rfl
                      case e2 => unfold maxLen; omega
                      case e3 => omega
                      case e4 => simp; omega
                      case e5 =>
                        intro v2' w8 hown8 hg8 alt8a
                        have alt8 := alt_new alt8a
                        have ha8 := (HA2.out.alloc _).push obB hown8 hg8 alt8 HAT2.out (vis2 HP2.out (by rw [HF2.out]; omega)) (free2 HP2.out)
                        have hat8 := at_push (HA2.out.alloc _).size alt8 HAT2.out
                        have hb8 : Below w2.heap.size w2 w8 := (HB2.out.alloc HBL _).grown hg8 (by simp; omega) (own_lt obB)
                        have HA8 := Lib.hid ha8
                        have HAT8 := Lib.hid hat8
                        have HB8 := Lib.hid hb8
                        have HP8 := Lib.hid hown8
                        clear ha8 hat8 hb8 obB hown8 hg8 alt8 alt8a
                        go_wp2
                        go_roundw
                        case rel => exact ⟨c + 1, _, by omega, by go_num, HP8.out, HAT8.out, HA8.out, HB8.out⟩
                        case measure => simp [RowKit.intOf]; omega
                    · have hc20 : ¬ (c : Int) < 20 := by omega
                      clear ob
                      go_wp2
                      go_roundw
                      case rel => exact ⟨k + 1, by omega, by go_num, HA2.out, HB2.out⟩
                      case measure => simp [RowKit.intOf]; omega
                · have hk3 : ¬ (k : Int) < 6 := by omega
                  obtain ⟨x11, rfl⟩ : ∃ x11 : World, x11 = wr := ⟨_, rfl⟩
                  obtain ⟨k3, rfl⟩ : ∃ k3 : Nat, k3 = k := ⟨_, rfl⟩
                  have HA3 := Lib.hid (ha.mono hkk)
                  have HX3 := Lib.hid hbr
                  clear ha hbr hlt hkk
                  go_wp2
                  go_loopw [24] (fun i wr => ∃ (k : Nat), k ≤ 6 ∧ i = .int .i64 k ∧ Aft x10 wr [] ps 6 ∧ Below w2.heap.size w2 wr) (fun i _ => 6 - (RowKit.intOf i).toNat)
                  case atStart => exact ⟨0, by omega, rfl, HA3.out, HX3.out⟩
                  case round =>
                    clear hk3
                    obtain ⟨k, hkk, rfl, ha, hbr⟩ := hrel
                    by_cases hlt : k < 6
                    · have hd3 : decide ((k : Int) < 6) = true := decide_eq_true (by omega)
                      obtain ⟨u2, fs2, hp2, hvu2, hf2⟩ := HW2.out.at_ hlt
                      obtain ⟨U2, cU2, rfl⟩ := own_slice (HT2.out.at_ hp2)
                      have HM2 := Lib.hid (HW2.out.done k _ hlt hp2)
                      rw [hf2] at hp2 hvu2
                      have HP2 := Lib.hid hp2
                      have HU2 := Lib.hid hvu2
                      have HF2 := Lib.hid hf2
                      have HA4 := Lib.hid ha
                      have HX4 := Lib.hid hbr
                      clear hp2 hf2 hvu2 ha hbr
                      obtain ⟨xo4, rfl⟩ : ∃ xo4 : World, xo4 = wr := ⟨_, rfl⟩
                      go_wp2
                      go_loopw [25] (fun i wr => ∃ (j : Nat), j ≤ ls.length ∧ i = .int .i64 j ∧ Aft x10 wr [] ps 6 ∧ Below w2.heap.size w2 wr) (fun i _ => ls.length - (RowKit.intOf i).toNat)
                      case atStart => exact ⟨0, by omega, rfl, HA4.out, HX4.out⟩
                      case round =>
                        obtain ⟨j, hjj, rfl, ha, hbr⟩ := hrel
                        have own2 := ha.own HO2.out (free_of_type HT1.out HT2.out HO2.out (by decide) (by decide) _)
                        have hc2 : wr.cell? ⟨g2, k, none⟩ = some (.slice U2 ls.length cU2) := (own2.cellAt k (by omega)).trans HU2.out
                        have hgl2 : g2 < wr.heap.size := own_blt own2 g2 rfl
                        by_cases hjt : j < ls.length
                        · have hrow := seen_row2 HT1.out HT2.out ha HP2.out HF2.out.symm
                          obtain ⟨⟨x, y, z⟩, hy⟩ := some_of_lt (show j < fs2.length by rw [HF2.out]; exact hjt)
                          have hym := HM2.out j _ hy
                          have hfl3 : (flat3 fs2).length = ls.length * 3 := by rw [flat3_length, HF2.out]
                          obtain ⟨g, off, rfl, hgl, hcl⟩ := hrow (by rw [hfl3]; omega)
                          have hcy : wr.cell? ⟨g, off + j * 3, none⟩ = some (.string x) := hcl (j * 3) _ (flat3_get hy).1
                          clear hcl
                          obtain ⟨dg, hdg⟩ : ∃ dg, dg = itoaT (100 * (k : Int) + (j : Int)) := ⟨_, rfl⟩
                          have hdz : dg.size ≤ 4194304 := by rw [hdg]; exact itoaM_small _ (by omega) (by omega)
                          have HD := Lib.hid (fun w => rDigits_any (100 * (k : Int) + (j : Int)) w (by omega) (by omega))
                          rw [← hdg] at HD
                          have hym2 : x = ⟨#[109, 97, 114, 107]⟩ ++ dg := by
                            have h := congrArg Prod.fst hym
                            have h : x = mk1 k j := h
                            rw [h, hdg]; unfold mk1; rw [show ((100 * k + j : Nat) : Int) = 100 * (k : Int) + (j : Int) by omega]; rfl
                          clear hdg hym hy
                          have hwr1 : IntKind.i64.wrap (100 * (k : Int)) = 100 * (k : Int) := IntWalk.i64_in _ (by omega)
                          have hwr2 : IntKind.i64.wrap (100 * (k : Int) + (j : Int)) = 100 * (k : Int) + (j : Int) := IntWalk.i64_in _ (by omega)
                          have hno : ¬ 9223372036854775807 < 4 + dg.size := by omega
                          have HS := Lib.hid (fun (w' : World) (h : Below wr.heap.size wr w') => (⟨(h.cell (p := ⟨g2, k, none⟩) hgl2).trans hc2, (h.cell (p := ⟨g, off + j * 3, none⟩) hgl).trans hcy⟩ : w'.cell? ⟨g2, k, none⟩ = some (.slice (some ⟨g, off, none⟩) ls.length cU2) ∧ w'.cell? ⟨g, off + j * 3, none⟩ = some (.string x)))
                          have HAB := Lib.hid (fun (w' : World) (h : Below wr.heap.size wr w') => (⟨ha.below h, hbr.trans (h.mono hbr.size)⟩ : Aft x10 w' [] ps 6 ∧ Below w2.heap.size w2 w'))
                          have hki3 : (k : Int) < 6 := by omega
                          have hki4 : ¬ (6 : Int) ≤ (k : Int) := by omega
                          clear ha hbr own2 hrow hfl3
                          subst hym2
                          go_wp2_with fail
                          go_region_held3 (fun w' => w'.cell? ⟨g2, k, none⟩ = some (.slice (some ⟨g, off, none⟩) ls.length cU2) ∧ w'.cell? ⟨g, off + j * 3, none⟩ = some (.string (⟨#[109, 97, 114, 107]⟩ ++ dg))) (first | assumption | exact HS.out _ hbC | exact HS.out _ (Below.refl _ _) | exact HS.out _ (below_drew (Below.refl _ _)) | go_keep) (first | (go_at_call 18; (with_reducible refine (HD.out _).mono ?_); rintro e w3 ⟨rfl, b3⟩; have hbC : Below wr.heap.size wr w3 := (below_drew (Below.refl wr.heap.size wr)).trans (b3.mono (by simp))))
                          all_goals
                            obtain ⟨ha5, hb5⟩ := HAB.out _ hbC
                            have HA5 := Lib.hid ha5
                            have HB5 := Lib.hid hb5
                            clear ha5 hb5 hbC b3
                            go_wp2
                            go_roundw
                            case rel => exact ⟨j + 1, by omega, by go_num, HA5.out, HB5.out⟩
                            case measure => simp [RowKit.intOf]; omega
                        · obtain rfl : j = ls.length := by omega
                          clear own2
                          go_wp2
                          go_roundw
                          case rel => exact ⟨k + 1, by omega, by go_num, ha, hbr⟩
                          case measure => simp [RowKit.intOf]; omega
                    · have hk3 : ¬ (k : Int) < 6 := by omega
                      have hbx := hbw.trans (hbr.mono hbw.size)
                      have hrw3 := hrw2.below hbr
                      clear ha hlt hkk hrw2
                      go_wp2_with fail
                      refine (HF.out _ hbx).mono ?_
                      intro e w3 hf3
                      obtain ⟨fv, fp, A3, c3, rfl, o3, b3⟩ := find_as HA hf3
                      have hbx3 := hbx.trans (b3.mono hbx.size)
                      have HPA := Lib.hid (params_same A3 WA c3 wc ls w3 (own_row o3) (hrw3.below b3) (by omega))
                      have HZ := Lib.hid (HSZ.out.trans (hbx3.mono HSZ.out.size))
                      have e3 : (ok == ok) = true := by simp
                      clear hf3 b3 o3 hbx hbx3 hrw3
                      go_wp2_with fail
                      refine HPA.out.mono ?_
                      rintro e w5 ⟨rfl, q5, rfl⟩
                      have hbF := below_drewN HZ.out q5
                      go_wp2
                      go_ret
                      exact ⟨rfl, hbF⟩
end Go.Proofs.Ytkhgnfofinpofaa
