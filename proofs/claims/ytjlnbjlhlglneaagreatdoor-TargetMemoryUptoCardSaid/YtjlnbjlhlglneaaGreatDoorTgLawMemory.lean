/-
  The walk of TargetMemory.
-/
import Derived.Test.YtjlnbjlhlglneaaGreatDoorTgMp
import Derived.Test.YtjlnbjlhlglneaaGreatDoorTgQ
import Derived.Test.YtjlnbjlhlglneaaGreatDoorTgSg
import Derived.Test.YtjlnbjlhlglneaaGreatDoorTgSr
import Derived.Test.YtjlnbjlhlglneaaGreatDoorTgSm
import Derived.Test.YtjlnbjlhlglneaaGreatDoorTgDn
import Derived.Test.YtjlnbjlhlglneaaGreatDoorTgAw
namespace Go.Proofs.YtjlnbjlhlglneaaGreatDoor
open Go.RowKit Go.Shelf Go.Lib

theorem info_strs : (Tryz.prog.info? 41).map (fun i => (i.zero, i.size, i.bytes)) = some (some (.slice none 0 0), 1, 24) := by kernel_rfl
theorem info_prs : (Tryz.prog.info? 33).map (fun i => (i.zero, i.size, i.bytes)) = some (some (.slice none 0 0), 1, 24) := by kernel_rfl
theorem Segments_mem (s : ByteArray) (w : World) (hs : s.size ≤ 4194304) (hg : Glob w) :
    Calls Tryz.prog 18 #[.string s] w (GivesSegs w (segR s)) := by
  cases hp : isPathB s
  · exact Segments_no s w hs hp
  · exact Segments_yes s w hs hg hp
theorem segR_length (s : ByteArray) : (segR s).1.length ≤ s.size + 1 := by
  cases hp : isPathB s
  · rw [segR_no hp]; exact Nat.zero_le _
  · rw [segR_yes hp]
    show (decs (splitC (behind1 s) 47)).length ≤ _
    unfold decs
    rw [List.length_map]
    have h := splitC_len (behind1 s) 47
    have h2 : (behind1 s).size ≤ s.size := by unfold behind1; rw [ByteArray.size_extract]; omega
    omega
theorem queryR_length (s : ByteArray) : (queryR s).1.length ≤ s.size + 1 := by
  unfold queryR
  split
  · exact Nat.zero_le _
  · exact Nat.le_trans (pairsL_length _) (splitC_len s 38)
theorem itoaT_len {n : Int} (h0 : -9223372036854775808 ≤ n) (h1 : n ≤ 9223372036854775807) : (Lib.itoa n).length ≤ 21 := by
  have h := Lib.nDigits_le20 n.natAbs (by omega)
  have h2 := Lib.nDigits_le20 n.toNat (by omega)
  unfold Lib.itoa
  split
  · rw [List.length_cons, Lib.decDigits_length]; omega
  · rw [Lib.decDigits_length]; omega
theorem itoa_small (n : Int) (h0 : -9223372036854775808 ≤ n) (h1 : n ≤ 9223372036854775807) : (itoaT n).size ≤ 4194304 := by
  have h := itoaT_len h0 h1
  rw [← size_eq]
  show (Lib.itoa n).length ≤ _
  omega
/-- What is written into the lists. -/
def markT : ByteArray := ⟨#[109, 97, 114, 107]⟩
def mk1 (a j : Nat) : ByteArray := markT ++ itoaT ((1000 * a + j : Nat) : Int)
def mk2 (a j : Nat) : Pr := (mk1 a j, ⟨#[]⟩, false)
theorem flat3_set (p : Pr) : ∀ {l : List Pr} {k : Nat}, k < l.length → (((flat3 l).set (k * 3) (.string p.1)).set (k * 3 + 1) (.string p.2.1)).set (k * 3 + 2) (.bool p.2.2) = flat3 (l.set k p)
  | [], k, h => by simp at h
  | q :: l, 0, _ => rfl
  | q :: l, k + 1, h => by
    have ih := flat3_set p (l := l) (k := k) (by simpa using h)
    have e : flat3 (q :: l) = .string q.1 :: .string q.2.1 :: .bool q.2.2 :: flat3 l := rfl
    have e2 : flat3 ((q :: l).set (k + 1) p) = .string q.1 :: .string q.2.1 :: .bool q.2.2 :: flat3 (l.set k p) := rfl
    rw [e, e2, ← ih, show (k + 1) * 3 = k * 3 + 1 + 1 + 1 by omega, show k * 3 + 1 + 1 + 1 + 1 = (k * 3 + 1) + 1 + 1 + 1 from rfl, show k * 3 + 1 + 1 + 1 + 2 = (k * 3 + 2) + 1 + 1 + 1 from rfl]
    simp only [List.set_cons_succ]
theorem alt_new {w w7 : World} {o : Obj} {v v' : Value} (h : (v'.ownBlock = v.ownBlock ∧ ¬ v.ownBlock = none) ∨ (v'.ownBlock = some (w.heap.size + 1) ∧ (w.alloc o).grownBy w7 none)) : (v'.ownBlock = v.ownBlock ∧ v.ownBlock ≠ none) ∨ (v'.ownBlock = some (w.alloc o).heap.size ∧ (w.alloc o).grownBy w7 none) := by
  rcases h with h | ⟨h1, h2⟩
  · exact .inl h
  · exact .inr ⟨by rw [h1]; simp, h2⟩
set_option maxRecDepth 100000 in
set_option maxHeartbeats 16000000 in
theorem TargetMemory_walk (s t : ByteArray) (w : World) (_hs : s.size ≤ maxLen) (_ht : t.size ≤ maxLen) (hk : s.size + t.size ≤ 1048576) (hg : Glob w) :
    Calls Tryz.prog 5 #[.string s, .string t] w fun e w' => e = .returned (.bool true) ∧ Below w.heap.size w w' := by
  obtain ⟨i0, hi0, hz0, hz1, hz2⟩ := info_parts info_strs
  obtain ⟨j0, hj0, hy0, hy1, hy2⟩ := info_parts info_prs
  obtain ⟨k0, hk0, hx0, hx1, hx2⟩ := info_parts info_string
  obtain ⟨l0, hl0, hv0, hv1, hv2⟩ := info_parts info_param
  have HS := Lib.hid (fun w hg => Segments_mem s w (by omega) hg)
  have HRS := Lib.hid (fun w => rSegments_any s w (by omega))
  have HQ := Lib.hid (fun w hg => Query_any t w (by omega) hg)
  have HRQ := Lib.hid (fun w => rQuery_any t w (by omega))
  have h1 := segR_length s
  have h2 := queryR_length t
  generalize segR s = rs at *
  generalize queryR t = rq at *
  obtain ⟨ls, es⟩ := rs
  obtain ⟨lq, pq, eq⟩ := rq
  dsimp only at h1 h2
  have hn1 : ls.length ≤ 1048577 := by omega
  have hn2 : lq.length ≤ 1048577 := by omega
  clear h1 h2 hk _hs _ht
  go_enter Tryz.func5, Tryz.ntmps5
  go_wp2_with fail
  refine (HRS.out _).mono ?_
  rintro e w1 ⟨A1, c1, rfl, o1, b1⟩
  dsimp only at o1
  dsimp only
  go_wp2_with fail
  refine (HRQ.out _).mono ?_
  rintro e w2 ⟨A2, c2, rfl, o2, b2⟩
  dsimp only at o2
  dsimp only
  have r1 := (own_row o1).below b2
  have r2 := own_row o2
  have hb2 := b1.trans (b2.mono b1.size)
  have hg2 := hg.beyond hb2
  clear o1 o2 b1 b2
  go_wp2
  go_loopw [10, 11, 12] (fun v u i wr => ∃ (k : Nat) (ps1 : List (Value × List ByteArray)) (ps2 : List (Value × List Pr)), k ≤ 3 ∧ i = .int .i64 k ∧ T1 wr w2.heap.size v (ps1.map (·.1)) ps1 ∧ T2 wr w2.heap.size u (ps2.map (·.1)) ps2 ∧ ps1.length = k ∧ ps2.length = k ∧ (∀ (a : Nat) p, ps1[a]? = some p → p.2.length = ls.length) ∧ (∀ (a : Nat) p, ps2[a]? = some p → p.2.length = lq.length) ∧ Below w2.heap.size w2 wr) (fun _ _ i _ => 3 - (RowKit.intOf i).toNat)
  case atStart => exact ⟨0, [], [], by omega, rfl, (TabG.start _ _ (Nat.le_refl _)).alloc _, (by have h := TabG.start (fl := flat3) (SL := 33) (EL := 51) (sz := 3) (w2.alloc (.cells #[] 41)) w2.heap.size ((Below.refl w2.heap.size w2).alloc (Nat.le_refl _) (.cells #[] 41)).size; rw [show (w2.alloc (.cells #[] 41)).heap.size = w2.heap.size + 1 by simp] at h; exact h), rfl, rfl, fun a p hp => by simp at hp, fun a p hp => by simp at hp, ((Below.refl _ w2).alloc (Nat.le_refl _) _).alloc (by simp) _⟩
  case round =>
    obtain ⟨k, ps1, ps2, hkk, rfl, t1, t2, hl1, hl2, hs1, hs2, hbr⟩ := hrel
    have HL1 := Lib.hid hl1
    have HL2 := Lib.hid hl2
    have HS1 := Lib.hid hs1
    have HS2 := Lib.hid hs2
    clear hl1 hl2 hs1 hs2
    by_cases hlt : k < 3
    · have hg3 := hg2.beyond hbr
      go_wp2_with fail
      refine (HS.out _ hg3).mono ?_
      rintro e w3 ⟨A3, c3, rfl, o3, b3⟩
      dsimp only at o3
      dsimp only
      have t1a := t1.pend b3 (fs := ls) o3 hbr.size
      have t2a := t2.below b3
      have hb3 := hbr.trans (b3.mono hbr.size)
      have hg4 := hg2.beyond hb3
      have ra := own_row o3
      clear t1 t2 b3 o3 hbr hg3
      go_wp2_with fail
      refine (HQ.out _ hg4).mono ?_
      rintro e w4 ⟨A4, c4, rfl, o4, b4⟩
      dsimp only at o4
      dsimp only
      have t1b := t1a.below b4
      have t2b := t2a.pend b4 (fs := lq) o4 hb3.size
      have hb4 := hb3.trans (b4.mono hb3.size)
      have ra4 := ra.below b4
      have rb4 := own_row o4
      have rl4 := r1.below hb4
      have rq4 := r2.below hb4
      clear t1a t2a b4 o4 hb3 hg4 ra
      go_wp2_with fail
      refine (same_same A3 A1 c3 c1 ls _ ra4 rl4 (by omega)).mono ?_
      rintro e w5 ⟨rfl, q5, rfl⟩
      go_wp2_with fail
      refine (pairs_same A4 A2 c4 c2 lq _ (rb4.drewN q5) (rq4.drewN q5) (by omega)).mono ?_
      rintro e w6 ⟨rfl, q6, rfl⟩
      have b6 := below_drewN (below_drewN (Below.refl w4.heap.size w4) q5) q6
      have t1c := (t1b.below b6).alloc (.cells #[.slice A3 ls.length c3] 41)
      have t2c := (t2b.below b6).alloc (.cells #[.slice A3 ls.length c3] 41)
      have hb6 := hb4.trans (b6.mono hb4.size)
      generalize hw6 : (w4.drewN q5).drewN q6 = w6 at *
      clear t1b t2b ra4 rb4 rl4 rq4 b6 hb4
      have hp1 : (ps1.map (·.1)).length = k := by rw [List.length_map]; exact HL1.out
      have hp2 : (ps2.map (·.1)).length = k := by rw [List.length_map]; exact HL2.out
      go_wp2_with (at_builtin; refine wpList_append_any _ rfl (.tmp 71) (.tmp 73) 44 rfl w2.heap.size 41 i0 (.slice none 0 0) 1 24 Tryz.underlying44 hi0 hz0 hz1 hz2 rfl (by decide) _ _ _ rfl t1c.own _ (some ⟨w6.heap.size, 0, none⟩) 1 1 [.slice A3 ls.length c3] rfl (reads_of_row (row_newc w6 _ 41 rfl) rfl (by decide)) ?c1 ?c2 ?c3 ?c4 ?c5)
      case c1 =>
        intro u hu
        simp at hu
        subst hu
        rfl
      case c2 => unfold maxLen; omega
      case c3 => omega
      case c4 => simp; have := hb6.size; omega
      case c5 =>
        intro v' w7 hown7 hg7 _
        have hb7 : Below w2.heap.size w2 w7 := (hb6.alloc hb6.size _).grown hg7 (by simp; have := hb6.size; omega) (own_lt t1c.own)
        have t1d := t1c.grow (by decide) hg7 (vals' := (ps1 ++ [(Value.slice A3 ls.length c3, ls)]).map (·.1)) (v' := v') (by rw [List.map_append, List.length_append, hp1]; exact hown7)
        have t2d := (t2c.beside t1c.own (by decide) (by decide) hg7).alloc (.cells #[.slice A4 lq.length c4] 33)
        have t1e := t1d.alloc (.cells #[.slice A4 lq.length c4] 33)
        clear t1c t2c t1d hown7 hg7 hb6
        go_wp2_with (at_builtin; refine wpList_append_any _ rfl (.tmp 75) (.tmp 77) 45 rfl w2.heap.size 33 j0 (.slice none 0 0) 1 24 Tryz.underlying45 hj0 hy0 hy1 hy2 rfl (by decide) _ _ _ rfl t2d.own _ (some ⟨w7.heap.size, 0, none⟩) 1 1 [.slice A4 lq.length c4] rfl (reads_of_row (row_newc w7 _ 33 rfl) rfl (by decide)) ?d1 ?d2 ?d3 ?d4 ?d5)
        case d1 =>
          intro u hu
          simp at hu
          subst hu
          rfl
        case d2 => unfold maxLen; omega
        case d3 => omega
        case d4 => simp; have := hb7.size; omega
        case d5 =>
          intro v2' w8 hown8 hg8 _
          have hb8 : Below w2.heap.size w2 w8 := (hb7.alloc hb7.size _).grown hg8 (by simp; have := hb7.size; omega) (own_lt t2d.own)
          have t2f := t2d.grow (by decide) hg8 (vals' := (ps2 ++ [(Value.slice A4 lq.length c4, lq)]).map (·.1)) (v' := v2') (by rw [List.map_append, List.length_append, hp2]; exact hown8)
          have t1f := t1e.beside t2d.own (by decide) (by decide) hg8
          have HT1 := Lib.hid t1f
          have HT2 := Lib.hid t2f
          clear t1e t2d t1f t2f hown8 hg8 hb7 hp1 hp2
          go_wp2
          go_roundw
          case rel => exact ⟨k + 1, _, _, by omega, by go_num, HT1.out, HT2.out, by rw [List.length_append, HL1.out]; rfl, by rw [List.length_append, HL2.out]; rfl, fun a p hp => by
            rcases snoc_get hp with hp | ⟨_, rfl⟩
            · exact HS1.out a p hp
            · rfl, fun a p hp => by
            rcases snoc_get hp with hp | ⟨_, rfl⟩
            · exact HS2.out a p hp
            · rfl, hb8⟩
          case measure => simp [RowKit.intOf]; omega
    · have hk3 : ¬ (k : Int) < 3 := by omega
      have e3 : k = 3 := by omega
      have W1 : TwoG mk1 ls.length (ps1.map (·.1)) ps1 0 := ⟨by rw [HL1.out, e3], rfl, HS1.out, fun a p h _ => by omega⟩
      have W2 : TwoG mk2 lq.length (ps2.map (·.1)) ps2 0 := ⟨by rw [HL2.out, e3], rfl, HS2.out, fun a p h _ => by omega⟩
      have hvl1 : (ps1.map (·.1)).length = 3 := by rw [List.length_map, HL1.out, e3]
      have hvl2 : (ps2.map (·.1)).length = 3 := by rw [List.length_map, HL2.out, e3]
      clear e3 HL1 HL2 HS1 HS2
      obtain ⟨x9, rfl⟩ : ∃ x9 : World, x9 = wr := ⟨_, rfl⟩
      obtain ⟨k1, rfl⟩ : ∃ k1 : Nat, k1 = k := ⟨_, rfl⟩
      generalize ps1.map (·.1) = vals1 at *
      generalize ps2.map (·.1) = vals2 at *
      have HV1 := Lib.hid hvl1
      have HV2 := Lib.hid hvl2
      obtain ⟨V1, cV1, rfl⟩ := own_slice t1.own
      obtain ⟨V2, cV2, rfl⟩ := own_slice t2.own
      rw [hvl1] at t1 ⊢
      rw [hvl2] at t2 ⊢
      clear hvl1 hvl2
      obtain ⟨g1, rfl, hgb1, _⟩ := own_some (show x9.ownsRow w2.heap.size 41 1 (.slice V1 3 cV1) 3 vals1 by have h := t1.own; rw [HV1.out] at h; exact h) (by omega)
      obtain ⟨g2, rfl, hgb2, _⟩ := own_some (show x9.ownsRow w2.heap.size 33 1 (.slice V2 3 cV2) 3 vals2 by have h := t2.own; rw [HV2.out] at h; exact h) (by omega)
      go_wp2
      go_loopw [18] (fun i wr => ∃ (k : Nat) (ps1 : List (Value × List ByteArray)) (ps2 : List (Value × List Pr)), k ≤ 3 ∧ i = .int .i64 k ∧ T1 wr w2.heap.size (.slice (some ⟨g1, 0, none⟩) 3 cV1) vals1 ps1 ∧ T2 wr w2.heap.size (.slice (some ⟨g2, 0, none⟩) 3 cV2) vals2 ps2 ∧ TwoG mk1 ls.length vals1 ps1 k ∧ TwoG mk2 lq.length vals2 ps2 k ∧ Below w2.heap.size w2 wr) (fun i _ => 3 - (RowKit.intOf i).toNat)
      case atStart => exact ⟨0, ps1, ps2, by omega, rfl, t1, t2, W1, W2, hbr⟩
      case round =>
        clear t1 t2 W1 W2 hbr hlt hkk hk3
        obtain ⟨k, ps1, ps2, hkk, rfl, t1, t2, W1, W2, hbr⟩ := hrel
        by_cases hlt : k < 3
        · have hd3 : decide ((k : Int) < 3) = true := decide_eq_true (by omega)
          obtain ⟨u1, fs1, hp1, hvu1, hf1⟩ := W1.at_ hlt
          obtain ⟨u2, fs2, hp2, hvu2, hf2⟩ := W2.at_ hlt
          obtain ⟨U1, cU1, rfl⟩ := own_slice (t1.at_ hp1)
          obtain ⟨U2, cU2, rfl⟩ := own_slice (t2.at_ hp2)
          rw [hf1] at hp1 hvu1
          rw [hf2] at hp2 hvu2
          have HP1 := Lib.hid hp1
          have HP2 := Lib.hid hp2
          have HU1 := Lib.hid hvu1
          have HU2 := Lib.hid hvu2
          have HW1 := Lib.hid W1
          have HW2 := Lib.hid W2
          have HF1 := Lib.hid hf1
          have HF2 := Lib.hid hf2
          clear hp1 hp2 hvu1 hvu2 W1 W2 hf1 hf2
          obtain ⟨xo, rfl⟩ : ∃ xo : World, xo = wr := ⟨_, rfl⟩
          go_wp2
          go_loopw [19] (fun i wr => ∃ (j : Nat) (fs' : List ByteArray), j ≤ ls.length ∧ i = .int .i64 j ∧ T1 wr w2.heap.size (.slice (some ⟨g1, 0, none⟩) 3 cV1) vals1 (ps1.set k (.slice U1 ls.length cU1, fs')) ∧ T2 wr w2.heap.size (.slice (some ⟨g2, 0, none⟩) 3 cV2) vals2 ps2 ∧ MidG (mk1 k) ls.length j fs' ∧ Below w2.heap.size w2 wr) (fun i _ => ls.length - (RowKit.intOf i).toNat)
          case atStart => exact ⟨0, fs1, by omega, rfl, by rw [set_same HP1.out]; exact t1, t2, MidG.zero HF1.out, hbr⟩
          case round =>
            clear t1 t2 hbr
            obtain ⟨j, fs', hjj, rfl, t1, t2, hM, hbr⟩ := hrel
            have own1 : wr.ownsRow w2.heap.size 41 1 (.slice (some ⟨g1, 0, none⟩) 3 cV1) 3 vals1 := by have h := t1.own; rw [HV1.out] at h; exact h
            have hc1 : wr.cell? ⟨g1, k, none⟩ = some (.slice U1 ls.length cU1) := (own1.cellAt k (by omega)).trans HU1.out
            have hgl1 : g1 < wr.heap.size := own_blt own1 g1 rfl
            by_cases hjt : j < ls.length
            · have HMS := Lib.hid (hM.succ (mk := mk1 k))
              have HML := Lib.hid hM.len
              have HMT := Lib.hid hM
              clear hM
              have hown0 := t1.at_ (set_at HP1.out)
              rw [HML.out] at hown0
              obtain ⟨g, rfl, hgb, hgl⟩ := own_some hown0 (by omega)
              obtain ⟨y, hy⟩ := some_of_lt (show j < fs'.length by rw [HML.out]; exact hjt)
              have HFG := Lib.hid (show (fl1 fs')[j]? = some (.string y) by unfold fl1; rw [List.getElem?_map, hy]; rfl)
              clear hy
              obtain ⟨dg, hdg⟩ : ∃ dg, dg = itoaT (1000 * (k : Int) + (j : Int)) := ⟨_, rfl⟩
              have hdz : dg.size ≤ 4194304 := by rw [hdg]; exact itoa_small _ (by omega) (by omega)
              have HD := Lib.hid (fun w => rDigits_any (1000 * (k : Int) + (j : Int)) w (by omega) (by omega))
              rw [← hdg] at HD
              have HMK := Lib.hid (show mk1 k j = ⟨#[109, 97, 114, 107]⟩ ++ dg by rw [hdg]; unfold mk1; rw [show ((1000 * k + j : Nat) : Int) = 1000 * (k : Int) + (j : Int) by omega]; rfl)
              clear hdg
              have hwr1 : IntKind.i64.wrap (1000 * (k : Int)) = 1000 * (k : Int) := IntWalk.i64_in _ (by omega)
              have hwr2 : IntKind.i64.wrap (1000 * (k : Int) + (j : Int)) = 1000 * (k : Int) + (j : Int) := IntWalk.i64_in _ (by omega)
              have hno : ¬ 9223372036854775807 < 4 + dg.size := by omega
              have HT1 := Lib.hid t1
              have HT2 := Lib.hid t2
              have HS := Lib.hid (fun (w' : World) (h : Below wr.heap.size wr w') => (h.cell (p := ⟨g1, k, none⟩) hgl1).trans hc1)
              have hgne : g1 ≠ g := fun e => apart_types own1 hown0 (by decide) g1 rfl (by rw [e]; rfl)
              have hgne' : g ≠ g1 := Ne.symm hgne
              have hki3 : (k : Int) < 3 := by omega
              have hki4 : ¬ (3 : Int) ≤ (k : Int) := by omega
              clear t1 t2 own1
              go_wp2_with fail
              go_region_held3 (fun w' => w'.cell? ⟨g1, k, none⟩ = some (.slice (some ⟨g, 0, none⟩) ls.length cU1)) (first | assumption | exact HS.out _ hbC | (rw [World.cell?_setCell_ne _ _ _ _ (by simp [hgne])]; exact HS.out _ hbC) | go_keep) (first | (go_at_call 20; (with_reducible refine (HD.out _).mono ?_); rintro e w3 ⟨rfl, b3⟩; have hbC : Below wr.heap.size wr w3 := (below_drew (Below.refl wr.heap.size wr)).trans (b3.mono (by simp)); have hown3 := own_below hown0 hbC; have hq0 : w3.cell? ⟨g, j, none⟩ = some (.string y) := (hown3.cellAt j (by omega)).trans HFG.out; have hqf : w3.frozen? ⟨g, j, none⟩ = false := hown3.frozenAt _))
              all_goals
                obtain ⟨hs1, hs2⟩ := hown3.stored j (.string (⟨#[109, 97, 114, 107]⟩ ++ dg))
                have hfl : (fl1 fs').set j (.string (⟨#[109, 97, 114, 107]⟩ ++ dg)) = fl1 (fs'.set j (mk1 k j)) := by rw [HMK.out]; unfold fl1; rw [List.map_set]
                have hls : (fs'.set j (mk1 k j)).length = ls.length := HMS.out.len
                have hbD := hbr.trans (hbC.mono hbr.size)
                have hb5 := hbD.grown hs2 hbD.size (fun k hk => by injection hk with hk; omega)
                rw [hfl] at hs1
                have t1b := (HT1.out.below hbC).turn (by decide) (set_at HP1.out) hs2 (fs' := fs'.set j (mk1 k j)) (by rw [hls]; exact hs1)
                rw [List.set_set] at t1b
                have t2b := (HT2.out.below hbC).beside hown3 (by decide) (by decide) hs2
                have HT1b := Lib.hid t1b
                have HT2b := Lib.hid t2b
                have HB5 := Lib.hid hb5
                clear t1b t2b hb5 hls hfl hs1 hs2 hown3 hbC hbD hq0 hqf b3
                go_wp2
                go_roundw
                case rel => exact ⟨j + 1, _, by omega, by go_num, HT1b.out, HT2b.out, HMS.out, HB5.out⟩
                case measure => simp [RowKit.intOf]; omega
            · obtain rfl : j = ls.length := by omega
              have HW1b := Lib.hid (HW1.out.set HP1.out hM)
              clear hM own1 HW1
              generalize ps1.set k (Value.slice U1 ls.length cU1, fs') = qs1 at *
              obtain ⟨xp, rfl⟩ : ∃ xp : World, xp = wr := ⟨_, rfl⟩
              go_wp2
              clear hc1 hgl1
              go_loopw [20] (fun i wr => ∃ (j : Nat) (fs' : List Pr), j ≤ lq.length ∧ i = .int .i64 j ∧ T1 wr w2.heap.size (.slice (some ⟨g1, 0, none⟩) 3 cV1) vals1 qs1 ∧ T2 wr w2.heap.size (.slice (some ⟨g2, 0, none⟩) 3 cV2) vals2 (ps2.set k (.slice U2 lq.length cU2, fs')) ∧ MidG (mk2 k) lq.length j fs' ∧ Below w2.heap.size w2 wr) (fun i _ => lq.length - (RowKit.intOf i).toNat)
              case atStart => exact ⟨0, fs2, by omega, rfl, t1, by rw [set_same HP2.out]; exact t2, MidG.zero HF2.out, hbr⟩
              case round =>
                clear t1 t2 hbr
                obtain ⟨j, fs', hjj, rfl, t1, t2, hM, hbr⟩ := hrel
                have own2 : wr.ownsRow w2.heap.size 33 1 (.slice (some ⟨g2, 0, none⟩) 3 cV2) 3 vals2 := by have h := t2.own; rw [HV2.out] at h; exact h
                have hc2 : wr.cell? ⟨g2, k, none⟩ = some (.slice U2 lq.length cU2) := (own2.cellAt k (by omega)).trans HU2.out
                have hgl2 : g2 < wr.heap.size := own_blt own2 g2 rfl
                by_cases hjt : j < lq.length
                · have HMS := Lib.hid (hM.succ (mk := mk2 k))
                  have HML := Lib.hid hM.len
                  clear hM
                  have hown0 := t2.at_ (set_at HP2.out)
                  rw [HML.out] at hown0
                  obtain ⟨g, rfl, hgb, hgl⟩ := own_some hown0 (by omega)
                  obtain ⟨⟨x, y, z⟩, hy⟩ := some_of_lt (show j < fs'.length by rw [HML.out]; exact hjt)
                  have HFG := Lib.hid (flat3_get hy)
                  have HFS := Lib.hid (flat3_set (mk2 k j) (lt_of_some hy))
                  clear hy
                  obtain ⟨dg, hdg⟩ : ∃ dg, dg = itoaT (1000 * (k : Int) + (j : Int)) := ⟨_, rfl⟩
                  have hdz : dg.size ≤ 4194304 := by rw [hdg]; exact itoa_small _ (by omega) (by omega)
                  have HD := Lib.hid (fun w => rDigits_any (1000 * (k : Int) + (j : Int)) w (by omega) (by omega))
                  rw [← hdg] at HD
                  have HMK := Lib.hid (show mk2 k j = (⟨#[109, 97, 114, 107]⟩ ++ dg, ⟨#[]⟩, false) by rw [hdg]; unfold mk2 mk1; rw [show ((1000 * k + j : Nat) : Int) = 1000 * (k : Int) + (j : Int) by omega]; rfl)
                  clear hdg
                  have hwr1 : IntKind.i64.wrap (1000 * (k : Int)) = 1000 * (k : Int) := IntWalk.i64_in _ (by omega)
                  have hwr2 : IntKind.i64.wrap (1000 * (k : Int) + (j : Int)) = 1000 * (k : Int) + (j : Int) := IntWalk.i64_in _ (by omega)
                  have hno : ¬ 9223372036854775807 < 4 + dg.size := by omega
                  have HT1 := Lib.hid t1
                  have HT2 := Lib.hid t2
                  have HS := Lib.hid (fun (w' : World) (h : Below wr.heap.size wr w') => (h.cell (p := ⟨g2, k, none⟩) hgl2).trans hc2)
                  have hgne : g2 ≠ g := fun e => apart_types own2 hown0 (by decide) g2 rfl (by rw [e]; rfl)
                  have hgne' : g ≠ g2 := Ne.symm hgne
                  have hki3 : (k : Int) < 3 := by omega
                  clear t1 t2 own2
                  go_wp2_with fail
                  go_region_held3 (fun w' => w'.cell? ⟨g2, k, none⟩ = some (.slice (some ⟨g, 0, none⟩) lq.length cU2)) (first | assumption | exact HS.out _ hbC | (rw [World.cell?_setCell_far _ _ _ _ hgne', World.cell?_setCell_far _ _ _ _ hgne', World.cell?_setCell_far _ _ _ _ hgne']; exact HS.out _ hbC) | go_keep) (first | (go_at_call 20; (with_reducible refine (HD.out _).mono ?_); rintro e w3 ⟨rfl, b3⟩; have hbC : Below wr.heap.size wr w3 := (below_drew (Below.refl wr.heap.size wr)).trans (b3.mono (by simp)); have hown3 := own_below hown0 hbC; obtain ⟨hs1, hs2⟩ := hown3.stored (j * 3) (.string (⟨#[109, 97, 114, 107]⟩ ++ dg)); obtain ⟨hs3, hs4⟩ := hs1.stored (j * 3 + 1) (.string ⟨#[]⟩); obtain ⟨hs5, hs6⟩ := hs3.stored (j * 3 + 2) (.bool false); have hq0 : w3.cell? ⟨g, j * 3, none⟩ = some (.string x) := (hown3.cellAt (j * 3) (by omega)).trans HFG.out.1; have hq1 : (w3.setCell ⟨g, j * 3, none⟩ (.string (⟨#[109, 97, 114, 107]⟩ ++ dg))).cell? ⟨g, j * 3 + 1, none⟩ = some (.string y) := (hs1.cellAt (j * 3 + 1) (by omega)).trans ((List.getElem?_set_ne (by omega)).trans HFG.out.2.1); have hq2 : ((w3.setCell ⟨g, j * 3, none⟩ (.string (⟨#[109, 97, 114, 107]⟩ ++ dg))).setCell ⟨g, j * 3 + 1, none⟩ (.string ⟨#[]⟩)).cell? ⟨g, j * 3 + 2, none⟩ = some (.bool z) := (hs3.cellAt (j * 3 + 2) (by omega)).trans ((List.getElem?_set_ne (by omega)).trans ((List.getElem?_set_ne (by omega)).trans HFG.out.2.2)); have hf0 : w3.frozen? ⟨g, j * 3, none⟩ = false := hown3.frozenAt _; have hf1 : (w3.setCell ⟨g, j * 3, none⟩ (.string (⟨#[109, 97, 114, 107]⟩ ++ dg))).frozen? ⟨g, j * 3 + 1, none⟩ = false := hs1.frozenAt _; have hf2 : ((w3.setCell ⟨g, j * 3, none⟩ (.string (⟨#[109, 97, 114, 107]⟩ ++ dg))).setCell ⟨g, j * 3 + 1, none⟩ (.string ⟨#[]⟩)).frozen? ⟨g, j * 3 + 2, none⟩ = false := hs3.frozenAt _))
                  all_goals
                    have hfl : (((flat3 fs').set (j * 3) (.string (⟨#[109, 97, 114, 107]⟩ ++ dg))).set (j * 3 + 1) (.string ⟨#[]⟩)).set (j * 3 + 2) (.bool false) = flat3 (fs'.set j (mk2 k j)) := by
                      have h := HFS.out
                      rw [HMK.out] at h ⊢
                      exact h
                    have hls : (fs'.set j (mk2 k j)).length = lq.length := HMS.out.len
                    have hsg := (hs2.trans hs4).trans hs6
                    have hbD := hbr.trans (hbC.mono hbr.size)
                    have hb5 := hbD.grown hsg hbD.size (fun k hk => by injection hk with hk; omega)
                    rw [hfl] at hs5
                    have t2b := (HT2.out.below hbC).turn (by decide) (set_at HP2.out) hsg (fs' := fs'.set j (mk2 k j)) (by rw [hls]; exact hs5)
                    rw [List.set_set] at t2b
                    have t1b := (HT1.out.below hbC).beside hown3 (by decide) (by decide) hsg
                    have HT1b := Lib.hid t1b
                    have HT2b := Lib.hid t2b
                    have HB5 := Lib.hid hb5
                    clear t1b t2b hb5 hls hfl hsg hs1 hs2 hs3 hs4 hs5 hs6 hown3 hbC hbD hq0 hq1 hq2 hf0 hf1 hf2 b3
                    go_wp2
                    go_roundw
                    case rel => exact ⟨j + 1, _, by omega, by go_num, HT1b.out, HT2b.out, HMS.out, HB5.out⟩
                    case measure => simp [RowKit.intOf]; omega
                · obtain rfl : j = lq.length := by omega
                  have HW2b := Lib.hid (HW2.out.set HP2.out hM)
                  clear hM own2
                  go_wp2
                  go_roundw
                  case rel => exact ⟨k + 1, _, _, by omega, by go_num, t1, t2, HW1b.out, HW2b.out, hbr⟩
                  case measure => simp [RowKit.intOf]; omega
        · have hk3 : ¬ (k : Int) < 3 := by omega
          obtain ⟨x10, rfl⟩ : ∃ x10 : World, x10 = wr := ⟨_, rfl⟩
          have hk23 : k = 3 := by omega
          have HW1 := Lib.hid (show TwoG mk1 ls.length vals1 ps1 3 by rw [← hk23]; exact W1)
          have HW2 := Lib.hid (show TwoG mk2 lq.length vals2 ps2 3 by rw [← hk23]; exact W2)
          obtain ⟨k2, rfl⟩ : ∃ k2 : Nat, k2 = k := ⟨_, rfl⟩
          have HO1 := Lib.hid (show x10.ownsRow w2.heap.size 41 1 (.slice (some ⟨g1, 0, none⟩) 3 cV1) 3 vals1 by have h := t1.own; rw [HV1.out] at h; exact h)
          have HO2 := Lib.hid (show x10.ownsRow w2.heap.size 33 1 (.slice (some ⟨g2, 0, none⟩) 3 cV2) 3 vals2 by have h := t2.own; rw [HV2.out] at h; exact h)
          have HT1 := Lib.hid t1
          have HT2 := Lib.hid t2
          have HX := Lib.hid hbr
          have HXL := Lib.hid hbr.size
          clear W1 W2 t1 t2 hk23 hbr hlt hkk
          go_wp2
          go_loopw [21] (fun i wr => ∃ (k : Nat), k ≤ 3 ∧ i = .int .i64 k ∧ Aft x10 wr ps1 ps2 k ∧ Below w2.heap.size w2 wr) (fun i _ => 3 - (RowKit.intOf i).toNat)
          case atStart => exact ⟨0, by omega, rfl, Aft.refl _ _ _ _, HX.out⟩
          case round =>
            clear hk3
            obtain ⟨k, hkk, rfl, ha, hbr⟩ := hrel
            by_cases hlt : k < 3
            · have hd3 : decide ((k : Int) < 3) = true := decide_eq_true (by omega)
              obtain ⟨u1, fs1, hp1, hvu1, hf1⟩ := HW1.out.at_ hlt
              obtain ⟨u2, fs2, hp2, hvu2, hf2⟩ := HW2.out.at_ hlt
              obtain ⟨U1, cU1, rfl⟩ := own_slice (HT1.out.at_ hp1)
              obtain ⟨U2, cU2, rfl⟩ := own_slice (HT2.out.at_ hp2)
              rw [hf1] at hp1 hvu1
              rw [hf2] at hp2 hvu2
              have own1 := ha.own HO1.out (free_of_type HT1.out HT2.out HO1.out (by decide) (by decide) _)
              have own2 := ha.own HO2.out (free_of_type HT1.out HT2.out HO2.out (by decide) (by decide) _)
              have hc1 : wr.cell? ⟨g1, k, none⟩ = some (.slice U1 ls.length cU1) := (own1.cellAt k (by omega)).trans hvu1
              have hc2 : wr.cell? ⟨g2, k, none⟩ = some (.slice U2 lq.length cU2) := (own2.cellAt k (by omega)).trans hvu2
              have OR1 := Lib.hid (show wr.ownsRow w2.heap.size 9 1 (.slice U1 ls.length cU1) ls.length (fl1 fs1) by
                have h := ha.own (HT1.out.at_ hp1) (free_row1 HT1.out HT2.out hp1)
                rw [hf1] at h
                exact h)
              have OR2 := Lib.hid (show wr.ownsRow w2.heap.size 51 3 (.slice U2 lq.length cU2) lq.length (flat3 fs2) by
                have h := ha.own (HT2.out.at_ hp2) (free_row2 HT1.out HT2.out hp2)
                rw [hf2] at h
                exact h)
              have HP1 := Lib.hid hp1
              have HP2 := Lib.hid hp2
              have HF1 := Lib.hid hf1
              have HF2 := Lib.hid hf2
              have HA := Lib.hid (ha.mono (Nat.le_succ k))
              have HB := Lib.hid hbr
              clear hp1 hp2 hf1 hf2 hvu1 hvu2 own1 own2 ha hbr
              obtain ⟨xo, rfl⟩ : ∃ xo : World, xo = wr := ⟨_, rfl⟩
              go_wp2
              go_loopw [22, 23, 24] (fun g h i wr => ∃ (c : Nat) (xs1 xs2 : List Value), c ≤ 20 ∧ i = .int .i64 c ∧ wr.ownsRow w2.heap.size 9 1 g (ls.length + c) xs1 ∧ (∀ b, g.ownBlock = some b → b < x10.heap.size → (Value.slice U1 ls.length cU1).ownBlock = some b) ∧ wr.ownsRow w2.heap.size 51 3 h (lq.length + c) xs2 ∧ (∀ b, h.ownBlock = some b → b < x10.heap.size → (Value.slice U2 lq.length cU2).ownBlock = some b) ∧ Aft x10 wr ps1 ps2 (k + 1) ∧ Below w2.heap.size w2 wr) (fun _ _ i _ => 20 - (RowKit.intOf i).toNat)
              case atStart => exact ⟨0, _, _, by omega, rfl, OR1.out, fun b hb _ => hb, OR2.out, fun b hb _ => hb, HA.out, HB.out⟩
              case round =>
                clear hc1 hc2
                obtain ⟨c, xs1, xs2, hcc, rfl, oa, hat1, ob, hat2, ha, hbr⟩ := hrel
                have HAT1 := Lib.hid hat1
                have HAT2 := Lib.hid hat2
                have HA2 := Lib.hid ha
                have HB2 := Lib.hid hbr
                have HBL := hbr.size
                clear hat1 hat2 ha hbr
                by_cases hct : c < 20
                · have oaA := own_below oa ((Below.refl wr.heap.size wr).alloc (Nat.le_refl _) (.cells #[.string ⟨#[103, 114, 111, 119, 110]⟩] 9))
                  have obA := own_below ob ((Below.refl wr.heap.size wr).alloc (Nat.le_refl _) (.cells #[.string ⟨#[103, 114, 111, 119, 110]⟩] 9))
                  clear oa ob
                  go_wp2_with (at_builtin; refine wpList_append_keep _ rfl (.tmp 146) (.tmp 147) 41 rfl w2.heap.size 9 k0 (.string ⟨#[]⟩) 1 16 Tryz.underlying41 hk0 hx0 hx1 hx2 rfl (by decide) _ _ _ rfl oaA ⟨wr.heap.size, 0, none⟩ 1 1 [.string ⟨#[103, 114, 111, 119, 110]⟩] rfl rfl ?c0 ?c1 (by decide) ?c2 ?c3 ?c4 ?c5)
                  case c0 =>
                    intro j u hu
                    rcases j with _ | j
                    · simp at hu
                      subst hu
                      simp [Addr.add]
                    · simp at hu
                  case c1 =>
                    intro u hu
                    simp at hu
                    subst hu
                    rfl
                  case c2 => unfold maxLen; omega
                  case c3 => omega
                  case c4 => simp; omega
                  case c5 =>
                    intro v' w7 hown7 hg7 alt7a
                    have alt7 := alt_new alt7a
                    have ha7 := (HA2.out.alloc _).push oaA hown7 hg7 alt7 HAT1.out (vis1 HP1.out (by rw [HF1.out]; omega)) (free1 HP1.out)
                    have hat7 := at_push (HA2.out.alloc _).size alt7 HAT1.out
                    have hb7 : Below w2.heap.size w2 w7 := (HB2.out.alloc HBL _).grown hg7 (by simp; omega) (own_lt oaA)
                    have ob7 := own_other obA hg7 (apart_types oaA obA (by decide))
                    have o7B := own_below hown7 ((Below.refl w7.heap.size w7).alloc (Nat.le_refl _) (.cells #[.string ⟨#[103, 114, 111, 119, 110]⟩, .string ⟨#[]⟩, .bool false] 51))
                    have obB := own_below ob7 ((Below.refl w7.heap.size w7).alloc (Nat.le_refl _) (.cells #[.string ⟨#[103, 114, 111, 119, 110]⟩, .string ⟨#[]⟩, .bool false] 51))
                    have HA7 := Lib.hid ha7
                    have HAT7 := Lib.hid hat7
                    have HB7 := Lib.hid hb7
                    have HBL7 := hb7.size
                    clear ha7 hat7 hb7 ob7 oaA obA hown7 hg7 alt7 alt7a
                    go_wp2_with (at_builtin; refine wpList_append_keep _ rfl (.tmp 149) (.tmp 151) 33 rfl w2.heap.size 51 l0 (.agg #[.string ⟨#[]⟩, .string ⟨#[]⟩, .bool false]) 3 40 Tryz.underlying33 hl0 hv0 hv1 hv2 rfl (by decide) _ _ _ rfl obB ⟨w7.heap.size, 0, none⟩ 1 1 [.string ⟨#[103, 114, 111, 119, 110]⟩, .string ⟨#[]⟩, .bool false] rfl rfl (cells_new3 w7 _ _ _ 51 rfl) ?d1 (by decide) ?d2 ?d3 ?d4 ?d5)
                    case d1 =>
                      intro u hu
                      simp at hu
                      rcases hu with rfl | rfl | rfl <;> rfl
                    case d2 => unfold maxLen; omega
                    case d3 => omega
                    case d4 => simp; omega
                    case d5 =>
                      intro v2' w8 hown8 hg8 alt8a
                      have alt8 := alt_new alt8a
                      have ha8 := (HA7.out.alloc _).push obB hown8 hg8 alt8 HAT2.out (vis2 HP2.out (by rw [HF2.out]; omega)) (free2 HP2.out)
                      have hat8 := at_push (HA7.out.alloc _).size alt8 HAT2.out
                      have hb8 : Below w2.heap.size w2 w8 := (HB7.out.alloc HBL7 _).grown hg8 (by simp; omega) (own_lt obB)
                      have oa8 := own_other o7B hg8 (apart_types obB o7B (by decide))
                      have HA8 := Lib.hid ha8
                      have HAT8 := Lib.hid hat8
                      have HB8 := Lib.hid hb8
                      have HO8 := Lib.hid oa8
                      have HP8 := Lib.hid hown8
                      clear ha8 hat8 hb8 oa8 o7B obB hown8 hg8 alt8 alt8a
                      go_wp2
                      go_roundw
                      case rel => exact ⟨c + 1, _, _, by omega, by go_num, HO8.out, HAT7.out, HP8.out, HAT8.out, HA8.out, HB8.out⟩
                      case measure => simp [RowKit.intOf]; omega
                · have hc20 : ¬ (c : Int) < 20 := by omega
                  clear oa ob
                  go_wp2
                  go_roundw
                  case rel => exact ⟨k + 1, by omega, by go_num, HA2.out, HB2.out⟩
                  case measure => simp [RowKit.intOf]; omega
            · have hk3 : ¬ (k : Int) < 3 := by omega
              obtain ⟨x11, rfl⟩ : ∃ x11 : World, x11 = wr := ⟨_, rfl⟩
              obtain ⟨k3, rfl⟩ : ∃ k3 : Nat, k3 = k := ⟨_, rfl⟩
              have HA3 := Lib.hid (ha.mono hkk)
              have HX3 := Lib.hid hbr
              clear ha hbr hlt hkk
              go_wp2
              go_loopw [25] (fun i wr => ∃ (k : Nat), k ≤ 3 ∧ i = .int .i64 k ∧ Aft x10 wr ps1 ps2 3 ∧ Below w2.heap.size w2 wr) (fun i _ => 3 - (RowKit.intOf i).toNat)
              case atStart => exact ⟨0, by omega, rfl, HA3.out, HX3.out⟩
              case round =>
                clear hk3
                obtain ⟨k, hkk, rfl, ha, hbr⟩ := hrel
                by_cases hlt : k < 3
                · have hd3 : decide ((k : Int) < 3) = true := decide_eq_true (by omega)
                  obtain ⟨u1, fs1, hp1, hvu1, hf1⟩ := HW1.out.at_ hlt
                  obtain ⟨u2, fs2, hp2, hvu2, hf2⟩ := HW2.out.at_ hlt
                  obtain ⟨U1, cU1, rfl⟩ := own_slice (HT1.out.at_ hp1)
                  obtain ⟨U2, cU2, rfl⟩ := own_slice (HT2.out.at_ hp2)
                  have HM1 := Lib.hid (HW1.out.done k _ hlt hp1)
                  have HM2 := Lib.hid (HW2.out.done k _ hlt hp2)
                  rw [hf1] at hp1 hvu1
                  rw [hf2] at hp2 hvu2
                  have HP1 := Lib.hid hp1
                  have HP2 := Lib.hid hp2
                  have HU1 := Lib.hid hvu1
                  have HU2 := Lib.hid hvu2
                  have HF1 := Lib.hid hf1
                  have HF2 := Lib.hid hf2
                  have HA4 := Lib.hid ha
                  have HX4 := Lib.hid hbr
                  clear hp1 hp2 hf1 hf2 hvu1 hvu2 ha hbr
                  obtain ⟨xo, rfl⟩ : ∃ xo : World, xo = wr := ⟨_, rfl⟩
                  go_wp2
                  go_loopw [26] (fun i wr => ∃ (j : Nat), j ≤ ls.length ∧ i = .int .i64 j ∧ Aft x10 wr ps1 ps2 3 ∧ Below w2.heap.size w2 wr) (fun i _ => ls.length - (RowKit.intOf i).toNat)
                  case atStart => exact ⟨0, by omega, rfl, HA4.out, HX4.out⟩
                  case round =>
                    obtain ⟨j, hjj, rfl, ha, hbr⟩ := hrel
                    have own1 := ha.own HO1.out (free_of_type HT1.out HT2.out HO1.out (by decide) (by decide) _)
                    have hc1 : wr.cell? ⟨g1, k, none⟩ = some (.slice U1 ls.length cU1) := (own1.cellAt k (by omega)).trans HU1.out
                    have hgl1 : g1 < wr.heap.size := own_blt own1 g1 rfl
                    by_cases hjt : j < ls.length
                    · have hrow := seen_row1 HT1.out HT2.out ha HP1.out HF1.out.symm
                      obtain ⟨y, hy⟩ := some_of_lt (show j < fs1.length by rw [HF1.out]; exact hjt)
                      have hym : y = mk1 k j := HM1.out j y hy
                      obtain ⟨g, off, rfl, hgl, hcl⟩ := hrow (by rw [List.length_map, HF1.out]; omega)
                      have hcy : wr.cell? ⟨g, off + j, none⟩ = some (.string y) := hcl j _ (by rw [List.getElem?_map, hy]; rfl)
                      clear hcl hy
                      obtain ⟨dg, hdg⟩ : ∃ dg, dg = itoaT (1000 * (k : Int) + (j : Int)) := ⟨_, rfl⟩
                      have hdz : dg.size ≤ 4194304 := by rw [hdg]; exact itoa_small _ (by omega) (by omega)
                      have HD := Lib.hid (fun w => rDigits_any (1000 * (k : Int) + (j : Int)) w (by omega) (by omega))
                      rw [← hdg] at HD
                      have hym2 : y = ⟨#[109, 97, 114, 107]⟩ ++ dg := by rw [hym, hdg]; unfold mk1; rw [show ((1000 * k + j : Nat) : Int) = 1000 * (k : Int) + (j : Int) by omega]; rfl
                      clear hdg hym
                      have hwr1 : IntKind.i64.wrap (1000 * (k : Int)) = 1000 * (k : Int) := IntWalk.i64_in _ (by omega)
                      have hwr2 : IntKind.i64.wrap (1000 * (k : Int) + (j : Int)) = 1000 * (k : Int) + (j : Int) := IntWalk.i64_in _ (by omega)
                      have hno : ¬ 9223372036854775807 < 4 + dg.size := by omega
                      have HS := Lib.hid (fun (w' : World) (h : Below wr.heap.size wr w') => (⟨(h.cell (p := ⟨g1, k, none⟩) hgl1).trans hc1, (h.cell (p := ⟨g, off + j, none⟩) hgl).trans hcy⟩ : w'.cell? ⟨g1, k, none⟩ = some (.slice (some ⟨g, off, none⟩) ls.length cU1) ∧ w'.cell? ⟨g, off + j, none⟩ = some (.string y)))
                      have HAB := Lib.hid (fun (w' : World) (h : Below wr.heap.size wr w') => (⟨ha.below h, hbr.trans (h.mono hbr.size)⟩ : Aft x10 w' ps1 ps2 3 ∧ Below w2.heap.size w2 w'))
                      have hki3 : (k : Int) < 3 := by omega
                      have hki4 : ¬ (3 : Int) ≤ (k : Int) := by omega
                      clear ha hbr own1 hrow
                      subst hym2
                      go_wp2_with fail
                      go_region_held3 (fun w' => w'.cell? ⟨g1, k, none⟩ = some (.slice (some ⟨g, off, none⟩) ls.length cU1) ∧ w'.cell? ⟨g, off + j, none⟩ = some (.string (⟨#[109, 97, 114, 107]⟩ ++ dg))) (first | assumption | exact HS.out _ hbC | exact HS.out _ (Below.refl _ _) | exact HS.out _ (below_drew (Below.refl _ _)) | go_keep) (first | (go_at_call 20; (with_reducible refine (HD.out _).mono ?_); rintro e w3 ⟨rfl, b3⟩; have hbC : Below wr.heap.size wr w3 := (below_drew (Below.refl wr.heap.size wr)).trans (b3.mono (by simp))))
                      all_goals
                        obtain ⟨ha5, hb5⟩ := HAB.out _ hbC
                        have HA5 := Lib.hid ha5
                        have HB5 := Lib.hid hb5
                        clear ha5 hb5 hbC b3
                        go_wp2
                        go_roundw
                        case rel => exact ⟨j + 1, by omega, by go_num, HA5.out, HB5.out⟩
                        case measure => simp [RowKit.intOf]; omega
                    · obtain rfl : j = ls.length := by omega
                      clear own1
                      obtain ⟨xp, rfl⟩ : ∃ xp : World, xp = wr := ⟨_, rfl⟩
                      go_wp2
                      clear hc1 hgl1
                      go_loopw [27] (fun i wr => ∃ (j : Nat), j ≤ lq.length ∧ i = .int .i64 j ∧ Aft x10 wr ps1 ps2 3 ∧ Below w2.heap.size w2 wr) (fun i _ => lq.length - (RowKit.intOf i).toNat)
                      case atStart => exact ⟨0, by omega, rfl, ha, hbr⟩
                      case round =>
                        clear ha hbr
                        obtain ⟨j, hjj, rfl, ha, hbr⟩ := hrel
                        have own2 := ha.own HO2.out (free_of_type HT1.out HT2.out HO2.out (by decide) (by decide) _)
                        have hc2 : wr.cell? ⟨g2, k, none⟩ = some (.slice U2 lq.length cU2) := (own2.cellAt k (by omega)).trans HU2.out
                        have hgl2 : g2 < wr.heap.size := own_blt own2 g2 rfl
                        by_cases hjt : j < lq.length
                        · have hrow := seen_row2 HT1.out HT2.out ha HP2.out HF2.out.symm
                          obtain ⟨⟨x, y, z⟩, hy⟩ := some_of_lt (show j < fs2.length by rw [HF2.out]; exact hjt)
                          have hym := HM2.out j _ hy
                          have hfl3 : (flat3 fs2).length = lq.length * 3 := by rw [flat3_length, HF2.out]
                          obtain ⟨g, off, rfl, hgl, hcl⟩ := hrow (by rw [hfl3]; omega)
                          have hcy : wr.cell? ⟨g, off + j * 3, none⟩ = some (.string x) := hcl (j * 3) _ (flat3_get hy).1
                          clear hcl
                          obtain ⟨dg, hdg⟩ : ∃ dg, dg = itoaT (1000 * (k : Int) + (j : Int)) := ⟨_, rfl⟩
                          have hdz : dg.size ≤ 4194304 := by rw [hdg]; exact itoa_small _ (by omega) (by omega)
                          have HD := Lib.hid (fun w => rDigits_any (1000 * (k : Int) + (j : Int)) w (by omega) (by omega))
                          rw [← hdg] at HD
                          have hym2 : x = ⟨#[109, 97, 114, 107]⟩ ++ dg := by
                            have h := congrArg Prod.fst hym
                            have h : x = mk1 k j := h
                            rw [h, hdg]; unfold mk1; rw [show ((1000 * k + j : Nat) : Int) = 1000 * (k : Int) + (j : Int) by omega]; rfl
                          clear hdg hym hy
                          have hwr1 : IntKind.i64.wrap (1000 * (k : Int)) = 1000 * (k : Int) := IntWalk.i64_in _ (by omega)
                          have hwr2 : IntKind.i64.wrap (1000 * (k : Int) + (j : Int)) = 1000 * (k : Int) + (j : Int) := IntWalk.i64_in _ (by omega)
                          have hno : ¬ 9223372036854775807 < 4 + dg.size := by omega
                          have HS := Lib.hid (fun (w' : World) (h : Below wr.heap.size wr w') => (⟨(h.cell (p := ⟨g2, k, none⟩) hgl2).trans hc2, (h.cell (p := ⟨g, off + j * 3, none⟩) hgl).trans hcy⟩ : w'.cell? ⟨g2, k, none⟩ = some (.slice (some ⟨g, off, none⟩) lq.length cU2) ∧ w'.cell? ⟨g, off + j * 3, none⟩ = some (.string x)))
                          have HAB := Lib.hid (fun (w' : World) (h : Below wr.heap.size wr w') => (⟨ha.below h, hbr.trans (h.mono hbr.size)⟩ : Aft x10 w' ps1 ps2 3 ∧ Below w2.heap.size w2 w'))
                          have hki3 : (k : Int) < 3 := by omega
                          have hki4 : ¬ (3 : Int) ≤ (k : Int) := by omega
                          clear ha hbr own2 hrow hfl3
                          subst hym2
                          go_wp2_with fail
                          go_region_held3 (fun w' => w'.cell? ⟨g2, k, none⟩ = some (.slice (some ⟨g, off, none⟩) lq.length cU2) ∧ w'.cell? ⟨g, off + j * 3, none⟩ = some (.string (⟨#[109, 97, 114, 107]⟩ ++ dg))) (first | assumption | exact HS.out _ hbC | exact HS.out _ (Below.refl _ _) | exact HS.out _ (below_drew (Below.refl _ _)) | go_keep) (first | (go_at_call 20; (with_reducible refine (HD.out _).mono ?_); rintro e w3 ⟨rfl, b3⟩; have hbC : Below wr.heap.size wr w3 := (below_drew (Below.refl wr.heap.size wr)).trans (b3.mono (by simp))))
                          all_goals
                            obtain ⟨ha5, hb5⟩ := HAB.out _ hbC
                            have HA5 := Lib.hid ha5
                            have HB5 := Lib.hid hb5
                            clear ha5 hb5 hbC b3
                            go_wp2
                            go_roundw
                            case rel => exact ⟨j + 1, by omega, by go_num, HA5.out, HB5.out⟩
                            case measure => simp [RowKit.intOf]; omega
                        · obtain rfl : j = lq.length := by omega
                          clear own2
                          go_wp2
                          go_roundw
                          case rel => exact ⟨k + 1, by omega, by go_num, ha, hbr⟩
                          case measure => simp [RowKit.intOf]; omega
                · have hk3 : ¬ (k : Int) < 3 := by omega
                  have hg9 := hg2.beyond hbr
                  have r1z := r1.below hbr
                  have r2z := r2.below hbr
                  clear ha hlt hkk r1 r2
                  go_wp2_with fail
                  refine (HS.out _ hg9).mono ?_
                  rintro e w3 ⟨A3, c3, rfl, o3, b3⟩
                  dsimp only at o3
                  dsimp only
                  have hb3 := hbr.trans (b3.mono hbr.size)
                  have hg9b := hg2.beyond hb3
                  have ra := own_row o3
                  have r1y := r1z.below b3
                  have r2y := r2z.below b3
                  clear o3 b3 hbr r1z r2z hg9
                  go_wp2_with fail
                  refine (HQ.out _ hg9b).mono ?_
                  rintro e w4 ⟨A4, c4, rfl, o4, b4⟩
                  dsimp only at o4
                  dsimp only
                  have hb4 := hb3.trans (b4.mono hb3.size)
                  have rb := own_row o4
                  have ra4 := ra.below b4
                  have r1x := r1y.below b4
                  have r2x := r2y.below b4
                  clear o4 b4 hb3 ra r1y r2y hg9b
                  go_wp2_with fail
                  refine (awake_any _).mono ?_
                  rintro e w5 ⟨rfl, b5⟩
                  have hb5 := hb4.trans (b5.mono hb4.size)
                  have ra5 := ra4.below b5
                  have rb5 := rb.below b5
                  have r1v := r1x.below b5
                  have r2v := r2x.below b5
                  clear b5 hb4 ra4 rb r1x r2x
                  go_wp2_with fail
                  refine (same_same A3 A1 c3 c1 ls _ ra5 r1v (by omega)).mono ?_
                  rintro e w6 ⟨rfl, q5, rfl⟩
                  go_wp2_with fail
                  refine (pairs_same A4 A2 c4 c2 lq _ (rb5.drewN q5) (r2v.drewN q5) (by omega)).mono ?_
                  rintro e w7 ⟨rfl, q6, rfl⟩
                  have hb7 := hb2.trans ((below_drewN hb5 (q5 + q6)).mono hb2.size)
                  go_wp2
                  go_ret
                  exact ⟨rfl, hb7⟩
end Go.Proofs.YtjlnbjlhlglneaaGreatDoor
