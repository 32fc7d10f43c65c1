/-
  The walk of RadixNodes.
-/
import Derived.Test.YtkhgnfofinpofaaRxKs
import Derived.Test.YtkhgnfofinpofaaRxRp
namespace Go.Proofs.Ytkhgnfofinpofaa
open Go.RowKit Go.Shelf Go.Lib

theorem flatP_kind {w : World} {A : Option Addr} {l : List Pc} {k : Nat} {x : Pc} (h : Row w A (flatP l)) (hk : l[k]? = some x) : ∃ b off, A = some ⟨b, off, none⟩ ∧ b < w.heap.size ∧ w.cell? ⟨b, off + k * 2, none⟩ = some (.int .i64 x.1) := by
  obtain ⟨b, off, h1, h2, h3, _⟩ := h.pc (x := x.1) (y := x.2) hk
  exact ⟨b, off, h1, h2, h3⟩
theorem edgN_take {l : List Pc} {k : Nat} {p : Pc} (h : l[k]? = some p) : edgN (l.take (k + 1)) = edgN (l.take k) + if p.1 = 0 then 0 else 1 := by
  rw [take_snoc h, edgN_append, edgN_cons]
  show _ + (_ + 0) = _
  omega
theorem edgN_take_le (l : List Pc) (k : Nat) : edgN (l.take k) ≤ edgN l := by
  have h := edgN_append (l.take k) (l.drop k)
  rw [List.take_append_drop] at h
  omega
theorem edgL_ins (es : List En) (x : En) : edgL (pcsE (insE es x)) = edgL (pcsE es) + edgN x.2.2.1 := by
  have h : ∀ a b : List (List Pc), edgL (a ++ b) = edgL a + edgL b := fun a b => by simp [edgL]
  have h2 := h ((pcsE es).take (cntL (pcsE es) x.2.2.1)) ((pcsE es).drop (cntL (pcsE es) x.2.2.1))
  rw [List.take_append_drop] at h2
  rw [pcsE_ins]
  unfold insL
  rw [h]
  have e : edgL (x.2.2.1 :: (pcsE es).drop (cntL (pcsE es) x.2.2.1)) = edgN x.2.2.1 + edgL ((pcsE es).drop (cntL (pcsE es) x.2.2.1)) := by simp [edgL]
  omega
theorem sumT_take {l : List ByteArray} {k : Nat} {x : ByteArray} (h : l[k]? = some x) : sumS (l.take (k + 1)) + (k + 1) = sumS (l.take k) + k + (x.size + 1) := by
  rw [take_snoc h, sumS_append, sumS_cons]
  show _ + (x.size + 0) + _ = _
  omega
theorem sumS_take_le (l : List ByteArray) (k : Nat) : sumS (l.take k) ≤ sumS l := by
  have h := sumS_append (l.take k) (l.drop k)
  rw [List.take_append_drop] at h
  omega
theorem nodes_pos (es : List En) : 1 ≤ nodesE es := cnt_pos _ _
theorem pcsE_len (es : List En) : (pcsE es).length = es.length := List.length_map _
set_option maxRecDepth 20000 in
set_option maxHeartbeats 8000000 in
theorem RadixNodes_walk (A : Option Addr) (c : Nat) (l : List ByteArray) (w : World) (hr : Row w A (l.map .string)) (hk : sumS l + l.length ≤ 1048576) (hg : Glob w) :
    Calls Try.prog 6 #[.slice A l.length c] w fun e w' => e = .returned (.bool true) ∧ Below w.heap.size w w' := by
  have HN := Lib.hid (NewK w w (Below.refl _ _))
  have HG := Lib.hid hg
  have HR := Lib.hid hr
  have HTL := Lib.hid (sumS_take_le l)
  clear hg hr
  go_enter Try.func6, Try.ntmps6
  go_wp2_with fail
  refine HN.out.mono ?_
  rintro e w1 ⟨rfl, hK1, hb1⟩
  go_wp2_with fail
  refine (awake_any _ (HG.out.beyond hb1)).mono ?_
  rintro e w2 ⟨rfl, hb2⟩
  have hK2 := Lib.hid (hK1.below hb2)
  clear HN hK1 hb1 hb2
  generalize hq : w.heap.size + 1 = q at *
  clear hq
  go_wp2
  go_loopw [4, 5, 6] (fun nv ev i wr => ∃ (k : Nat) (es : List En), k ≤ l.length ∧ i = .int .i64 (k : Int) ∧ nv = .int .i64 (es.length : Nat) ∧ ev = .int .i64 (edgL (pcsE es) : Nat) ∧ Hid (Kp w wr q es (sumS (l.take k) + k))) (fun _ _ i _ => l.length - (RowKit.intOf i).toNat)
  case atStart => exact ⟨0, [], by omega, rfl, rfl, rfl, Lib.hid (hK2.out.more (Nat.zero_le _))⟩
  case round =>
    obtain ⟨k, es, hkl, rfl, rfl, rfl, HK⟩ := hrel
    by_cases hlt : k < l.length
    · obtain ⟨x, hx⟩ := some_of_lt hlt
      have hkI : (k : Int) < (l.length : Int) := by omega
      obtain ⟨b, off, rfl, hb, hc⟩ := (HR.out.below HK.out.base).str hx
      have hst := sumT_take hx
      have h1 := HTL.out k
      have h2 := HTL.out (k + 1)
      have hxz := sumS_mem (List.mem_of_getElem? hx)
      have HI := Lib.hid (InsertK w wr q es _ x (k : Int) HK.out (by omega))
      have HXN := Lib.hid (fun W => rPieces_any x W (by omega))
      have hsum := HK.out.sum
      have HST := Lib.hid hst
      have hbud : 3 * (sumS (l.take k) + k + (x.size + 1)) ≤ 4194304 := by omega
      have HX := Lib.hid hx
      clear hx hst h1 h2 hK2
      go_wp2_with fail
      refine HI.out.mono ?_
      rintro e w3 ⟨code, es', rfl, hto, hK3, ht3⟩
      have HK3 := Lib.hid hK3
      clear HI ht3
      have hgd := hK3.good
      have hbd := nodes_bound hgd
      have hnp := nodes_pos es'
      have hle := sumE_len es'
      have hls := edgL_load (pcsE es')
      have hll := hgd.load
      have hse := hK3.sum
      rw [pcsE_len] at hbd hls
      have HNO := Lib.hid (fun W (h : Below w3.heap.size w3 W) => NodesK (w := W) (hK3.below h) hbud)
      have HLE := Lib.hid (fun W (h : Below w3.heap.size w3 W) => LenK (w := W) (hK3.below h))
      by_cases hcode : code = 0
      · subst hcode
        have hins : (splitP x).2.2 = true ∧ ∃ loc, es' = insE es (x, loc, (splitP x).1, (k : Int)) := by
          rcases hto with ⟨_, h, _⟩ | ⟨_, _, h, _⟩ | ⟨h1, _, _, h2⟩
          · cases h
          · cases h
          · exact ⟨h1, h2⟩
        obtain ⟨hgood, loc, hes⟩ := hins
        have hrp : rPieces x = (splitP x).1 := (split_segs hgood).symm
        have hkd := (split_wf hgood).1
        have hn1 : es'.length = es.length + 1 := by rw [hes]; exact insE_length es _
        have he1 : edgL (pcsE es') = edgL (pcsE es) + edgN (splitP x).1 := by rw [hes]; exact edgL_ins es _
        have hpl : (splitP x).1.length ≤ 4194304 := by
          have h1 := totP_len (splitP x).1
          have h2 := (split_wf hgood).2.2.1
          omega
        rw [hrp] at HXN
        have HTK := Lib.hid (edgN_take_le (splitP x).1)
        have HET := Lib.hid (fun k p h => @edgN_take (splitP x).1 k p h)
        generalize (splitP x).1 = pl at *
        have HN1 := Lib.hid hn1
        have HE1 := Lib.hid he1
        rw [hn1, he1] at hbd hls
        rw [hn1] at HLE hle
        have HB3 := Lib.hid hK3.base
        clear hto hgood hes hrp hn1 he1 hkd hK3 hgd
        generalize nodesE es' = m at *
        generalize edgL (pcsE es) = e0 at *
        generalize es.length = n0 at *
        obtain ⟨b3, off3, he3, _, hc3⟩ := (HR.out.below HB3.out).str HX.out
        cases he3
        go_wp2_with fail
        refine (HXN.out _).mono ?_
        rintro e w4 ⟨PA, pc, rfl, hop, hb4⟩
        have HPR := Lib.hid (own_row hop)
        have hb4x := Lib.hid hb4
        clear hop hb4 HXN
        go_wp2
        obtain ⟨wo, rfl⟩ : ∃ wo : World, wo = wr := ⟨_, rfl⟩
        go_loop [5, 8] (fun ev i => ∃ j : Nat, j ≤ pl.length ∧ i = .int .i64 (j : Int) ∧ ev = .int .i64 ((e0 + edgN (pl.take j) : Nat) : Int)) (fun _ i => pl.length - (RowKit.intOf i).toNat)
        case atStart => exact ⟨0, by omega, rfl, rfl⟩
        case round =>
          obtain ⟨j, hj, rfl, rfl⟩ := hrel
          have htk := HTK.out j
          by_cases hjl : j < pl.length
          · obtain ⟨y, hy⟩ := some_of_lt hjl
            have hjI : (j : Int) < (pl.length : Int) := by omega
            obtain ⟨b2, off2, rfl, hb2, hc2⟩ := flatP_kind HPR.out hy
            have HT1 := Lib.hid (HET.out j y hy)
            have htk1 := HTK.out (j + 1)
            have hyl := List.mem_of_getElem? hy
            generalize y.1 = kd at *
            clear hy hyl
            generalize edgN (pl.take j) = ej at *
            by_cases hkd : kd = 0
            · have hq : (kd != 0) = false := by rw [hkd]; rfl
              have HT2 := Lib.hid (show edgN (pl.take (j + 1)) = ej by rw [HT1.out, if_pos hkd]; rfl)
              clear HT1 hkd
              go_wp2
              go_round
              case rel => exact ⟨j + 1, by omega, by go_num, by rw [HT2.out]⟩
              case measure => simp [RowKit.intOf]; omega
            · have hq : (kd != 0) = true := by simpa using hkd
              have HT2 := Lib.hid (show edgN (pl.take (j + 1)) = ej + 1 by rw [HT1.out, if_neg hkd])
              clear HT1 hkd
              go_wp2
              go_round
              case rel => exact ⟨j + 1, by omega, by go_num, by rw [HT2.out]; go_num⟩
              case measure => simp [RowKit.intOf]; omega
          · obtain rfl : j = pl.length := by omega
            rw [List.take_length]
            have HTF := Lib.hid (show pl.take pl.length = pl from List.take_length)
            have hnn : (((n0 : Int) + 1) != ((n0 : Int) + 1)) = false := by simp
            have hm1 : ¬ (2 * ((n0 : Int) + 1) + 2 * ((e0 : Int) + (edgN pl : Int)) + 1 < (m : Int)) := by omega
            have hm2 : ¬ ((m : Int) < 1) := by omega
            generalize edgN pl = ep at *
            go_wp2_with fail
            refine (HLE.out _ hb4x.out).mono ?_
            rintro e w6 ⟨rfl, rfl⟩
            go_wp2_with fail
            refine (HNO.out _ hb4x.out).mono ?_
            rintro e w7 ⟨rfl, hd7⟩
            have hb7 := (hb4x.out).trans (hd7.below.mono (hb4x.out).size)
            go_wp2_with fail
            refine (HNO.out _ hb7).mono ?_
            rintro e w8 ⟨rfl, hd8⟩
            have hb8 := hb7.trans (hd8.below.mono hb7.size)
            have HK8 : Hid (Kp w w8 q es' (sumS (l.take (k + 1)) + (k + 1))) := Lib.hid (by rw [HST.out]; exact HK3.out.below hb8)
            clear hb7 hb8 hd7 hd8
            go_wp2
            go_roundw
            case rel => exact ⟨k + 1, es', by omega, by go_num, by rw [HN1.out]; go_num, by rw [HE1.out]; go_num, HK8⟩
            case measure => simp [RowKit.intOf]; omega
      · have hes : es' = es := by
          rcases hto with ⟨_, _, h⟩ | ⟨_, _, _, h⟩ | ⟨_, _, h, _⟩
          · exact h
          · exact h
          · exact absurd h hcode
        subst hes
        have hcq : (code == 0) = false := by simpa using hcode
        have HN1 := Lib.hid (rfl : es'.length = es'.length)
        have HE1 := Lib.hid (rfl : edgL (pcsE es') = edgL (pcsE es'))
        have hnn : (((es'.length : Nat) : Int) != ((es'.length : Nat) : Int)) = false := by simp
        have hm1 : ¬ (2 * (es'.length : Int) + 2 * (edgL (pcsE es') : Int) + 1 < (nodesE es' : Int)) := by omega
        have hm2 : ¬ ((nodesE es' : Int) < 1) := by omega
        clear hto hcode hK3 hgd HK HXN
        generalize nodesE es' = m at *
        generalize hee : edgL (pcsE es') = e0 at *
        generalize hnl : es'.length = n0 at *
        have HEE := Lib.hid hee
        have HNL := Lib.hid hnl
        clear hee hnl
        go_wp2_with fail
        refine (HLE.out _ (Below.refl _ _)).mono ?_
        rintro e w6 ⟨rfl, rfl⟩
        go_wp2_with fail
        refine (HNO.out _ (Below.refl _ _)).mono ?_
        rintro e w7 ⟨rfl, hd7⟩
        have hb7 : Below w3.heap.size w3 w7 := hd7.below
        go_wp2_with fail
        refine (HNO.out _ hb7).mono ?_
        rintro e w8 ⟨rfl, hd8⟩
        have hb8 := hb7.trans (hd8.below.mono hb7.size)
        have HK8 : Hid (Kp w w8 q es' (sumS (l.take (k + 1)) + (k + 1))) := Lib.hid (by rw [HST.out]; exact HK3.out.below hb8)
        clear hb7 hb8 hd7 hd8
        go_wp2
        go_roundw
        case rel => exact ⟨k + 1, es', by omega, by go_num, by rw [HNL.out], by rw [HEE.out], HK8⟩
        case measure => simp [RowKit.intOf]; omega
    · obtain rfl : k = l.length := by omega
      have HBF := Lib.hid HK.out.base
      go_wp2
      go_ret
      exact ⟨rfl, HBF.out⟩
end Go.Proofs.Ytkhgnfofinpofaa
