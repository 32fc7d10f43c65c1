/-
  RtLawMatches, without what this claim does not reach.
-/
import Derived.Test.YtiohmnhbmmhnhaaGreatDoorZRtRj
namespace Go.Proofs.YtiohmnhbmmhnhaaGreatDoor
open Go.RowKit Go.Shelf Go.Lib
def flatS2 (l : List (ByteArray × ByteArray)) : List Value := l.flatMap fun x => [.string x.1, .string x.2]
def bulkQ (l : List (ByteArray × ByteArray)) : Nat := (l.map fun q => q.1.size + q.2.size + 3).sum
theorem bulkQ_mem {l : List (ByteArray × ByteArray)} {q : ByteArray × ByteArray} (h : q ∈ l) : q.1.size + q.2.size + 3 ≤ bulkQ l := by
  induction l with
  | nil => cases h
  | cons x l ih =>
    unfold bulkQ at ih ⊢
    rw [List.map_cons, List.sum_cons]
    rcases List.mem_cons.1 h with rfl | h
    · omega
    · have := ih h; omega
theorem bulkQ_len (l : List (ByteArray × ByteArray)) : l.length ≤ bulkQ l := by
  induction l with
  | nil => exact Nat.le_refl _
  | cons x l ih =>
    unfold bulkQ at ih ⊢
    rw [List.map_cons, List.sum_cons, List.length_cons]
    omega
theorem flatS2_get {l : List (ByteArray × ByteArray)} {k : Nat} {x : ByteArray × ByteArray} (h : l[k]? = some x) : (flatS2 l)[k * 2]? = some (.string x.1) ∧ (flatS2 l)[k * 2 + 1]? = some (.string x.2) := by
  induction l generalizing k with
  | nil => simp at h
  | cons p l ih =>
    cases k with
    | zero =>
      simp at h
      subst h
      exact ⟨rfl, rfl⟩
    | succ k =>
      obtain ⟨h0, h1⟩ := ih (k := k) (by simpa using h)
      have e : flatS2 (p :: l) = .string p.1 :: .string p.2 :: flatS2 l := rfl
      rw [e, show (k + 1) * 2 = k * 2 + 1 + 1 by omega, show k * 2 + 1 + 1 + 1 = (k * 2 + 1) + 1 + 1 from rfl]
      simp only [List.getElem?_cons_succ]
      exact ⟨h0, h1⟩
theorem Row.ask {w : World} {A : Option Addr} {l : List (ByteArray × ByteArray)} {k : Nat} {x : ByteArray × ByteArray} (h : Row w A (flatS2 l)) (hk : l[k]? = some x) :
    ∃ b off, A = some ⟨b, off, none⟩ ∧ b < w.heap.size ∧ w.cell? ⟨b, off + k * 2, none⟩ = some (.string x.1) ∧ w.cell? ⟨b, off + k * 2 + 1, none⟩ = some (.string x.2) := by
  obtain ⟨h0, h1⟩ := flatS2_get hk
  obtain ⟨b, off, e, hb, hc⟩ := h.at_ h0
  exact ⟨b, off, e, hb, hc _ _ h0, by rw [Nat.add_assoc]; exact hc _ _ h1⟩
theorem allow_two (l : List Rt) (path : ByteArray) : (match patR l path with | some p => allowOf l (fun r : Rt => decide (r.2 = p)) | none => []) = (allowR l path).getD [] := by
  unfold allowR
  cases patR l path <;> rfl
theorem rallow_len {l : List Rt} (hk : bulkRt l ≤ 1048576) (path : ByteArray) : ((allowR l path).getD []).length ≤ 1048578 := by
  unfold allowR
  cases patR l path with
  | none => exact Nat.zero_le _
  | some p => exact allow_len hk _
theorem refGo_len : ∀ (l : List Pc) (xs : List ByteArray) (out r : List Prm), refGo l xs out = some r → r.length ≤ out.length + l.length
  | [], [], out, r, h => by
    have := Option.some.inj h
    subst this
    exact Nat.le_add_right _ _
  | [], _ :: _, _, _, h => by cases h
  | _ :: _, [], _, _, h => by cases h
  | p :: l, x :: xs, out, r, h => by
    unfold refGo at h
    rw [List.length_cons]
    by_cases h0 : p.1 = 0
    · rw [if_pos h0] at h
      by_cases hx : x = p.2
      · rw [if_pos hx] at h
        have := refGo_len l xs out r h
        omega
      · rw [if_neg hx] at h; cases h
    · rw [if_neg h0] at h
      by_cases h1 : p.1 = 1
      · rw [if_pos h1] at h
        by_cases hx : x.size = 0
        · rw [if_pos hx] at h; cases h
        · rw [if_neg hx] at h
          have := refGo_len l xs _ r h
          rw [List.length_append, List.length_singleton] at this
          omega
      · rw [if_neg h1] at h
        have := Option.some.inj h
        subst this
        rw [List.length_append, List.length_singleton]
        omega
theorem refFits_len (s path : ByteArray) : (fitVal (refFits s path)).1.length ≤ s.size := by
  unfold refFits
  by_cases h : (splitP s).2.2 = true ∧ isPathB path = true
  · rw [if_pos h]
    cases hr : refGo ((segsP s).map pcOf) (segsP path) [] with
    | none => exact Nat.zero_le _
    | some r =>
      have h1 := refGo_len _ _ _ _ hr
      have h2 := segsP_len s
      rw [List.length_map] at h1
      show r.length ≤ _
      simp only [List.length_nil] at h1
      omega
  · rw [if_neg h]
    exact Nat.zero_le _
theorem match_par {w : World} {t : Nat} {sl : Bool} {l : List Rt} (hT : TableAt w t sl l) (method path : ByteArray) : (matchP l sl method path).par.length ≤ 4398046511104 := by
  obtain ⟨_, _, _, _, _, _, h⟩ := hT
  unfold matchP
  cases hp : patR l path with
  | none =>
    by_cases hs : (segR path).2 = 0 ∧ sl = true
    · rw [matchF_near hs]
      cases patR l (otherP path) with
      | none => exact Nat.zero_le _
      | some q => exact Nat.zero_le _
    · rw [matchF_no hs]
      exact Nat.zero_le _
  | some p =>
    obtain ⟨hp1, _⟩ := pat_some hp
    have hps : p.size ≤ 1048576 := by
      obtain ⟨r, hr, rfl⟩ := List.mem_map.1 hp1
      exact (slim_mem h.bulk hr).pat
    have hl := refFits_len p path
    rw [ref_fits] at hl
    have hpp : (parP p path).length ≤ 4398046511104 := by
      show (fitVal (fitsP p path)).1.length ≤ _
      omega
    by_cases hf : 0 ≤ foundP l (plc p l) method
    · rw [matchF_found hf]
      exact hpp
    · rw [matchF_allow hf]
      exact hpp
set_option maxRecDepth 100000 in
set_option maxHeartbeats 4000000 in
theorem RouteMatches_walk (A : Option Addr) (c : Nat) (la : List Ra) (sl : Bool) (SA : Option Addr) (sc : Nat) (qs : List (ByteArray × ByteArray)) (w : World) (hr : Row w A (flatA la)) (hm : AOk w la) (hq : Row w SA (flatS2 qs)) (hk : bulkRt (plA la) + 0 + bulkQ qs ≤ 1048576) (hg : GlobR w) :
    Calls Tryz.prog 6 #[.slice A la.length c, .bool sl, .slice SA qs.length sc] w fun e w' => e = .returned (.bool true) ∧ Below w.heap.size w w' := by
  have hql := bulkQ_len qs
  have hlen5 : qs.length ≤ 1048576 := by omega
  have HR := Lib.hid (fun (W : World) (h : Below w.heap.size w W) => hr.below h)
  have HM := Lib.hid (fun (W : World) (h : Below w.heap.size w W) => hm.below h)
  have HQ := Lib.hid (fun (W : World) (h : Below w.heap.size w W) => hq.below h)
  have HK := Lib.hid (show bulkRt (plA la) ≤ 1048576 by omega)
  have HQM := Lib.hid (fun (q : ByteArray × ByteArray) (h : q ∈ qs) => show q.2.size ≤ 1048576 from by have := bulkQ_mem h; omega)
  have HG := Lib.hid (fun (W : World) (h : Below w.heap.size w W) => hg.beyond h)
  have HAW := Lib.hid (awake_any w hg)
  clear hr hm hq hk hg hql
  go_enter Tryz.func6, Tryz.ntmps6
  go_wp2_with fail
  refine HAW.out.mono ?_
  rintro e w1 ⟨rfl, hb1⟩
  have HB1 := Lib.hid hb1
  have HMA := Lib.hid (made_any A c la sl w1 (HR.out w1 hb1) (HM.out w1 hb1) HK.out (HG.out w1 hb1))
  clear hb1 HAW
  go_wp2_with fail
  refine HMA.out.mono ?_
  rintro e w2 (⟨_, rfl, hb2⟩ | ⟨_, t, rfl, _, hT, hb2⟩)
  · have HB2 := Lib.hid (HB1.out.trans (hb2.mono HB1.out.size))
    clear hb2 HMA
    go_wp2
    go_ret
    exact ⟨rfl, HB2.out⟩
  · have HB2 := Lib.hid (HB1.out.trans (hb2.mono HB1.out.size))
    have HT := Lib.hid hT
    have HBW := Lib.hid (fun (W : World) (h : Below w2.heap.size w2 W) => HB2.out.trans (h.mono HB2.out.size))
    clear hb2 HMA hT
    go_wp2
    go_loopw [32] (fun i wr => ∃ k : Nat, k ≤ qs.length ∧ i = .int .i64 k ∧ Hid (Below w2.heap.size w2 wr)) (fun i _ => qs.length - (RowKit.intOf i).toNat)
    case atStart => exact ⟨0, by omega, rfl, Lib.hid (Below.refl _ _)⟩
    case round =>
      obtain ⟨k, hkl, rfl, HB⟩ := hrel
      by_cases hlt : k < qs.length
      · obtain ⟨⟨qm, qp⟩, hx⟩ := some_of_lt hlt
        have hqp := HQM.out _ (List.mem_of_getElem? hx)
        obtain ⟨b, off, rfl, hbl, f0, f1⟩ := (HQ.out wr (HBW.out wr HB.out)).ask hx
        have hki : (k : Int) < (qs.length : Int) := by omega
        dsimp only at hqp f0 f1
        clear hx
        have hb5 : Below wr.heap.size wr (wr.alloc (.cells #[.string qm, .string qp] 42)) := (Below.refl _ _).alloc (Nat.le_refl _) _
        have HN5 : Hid (Blk (wr.alloc (.cells #[.string qm, .string qp] 42)) wr.heap.size 42 #[.string qm, .string qp]) := Lib.hid (Blk.new wr _ _)
        have HB5 := Lib.hid (HB.out.trans (hb5.mono HB.out.size))
        clear hb5
        go_upto_region 9 with (fail)
        generalize (wr.alloc (.cells #[.string qm, .string qp] 42)) = w5 at *
        have HSB := Lib.hid (fun (W : World) (h : Below w5.heap.size w5 W) => (⟨(HN5.out.below h HN5.out.lt).cell 0, (HN5.out.below h HN5.out.lt).cell 1⟩ : W.cell? ⟨wr.heap.size, 0, none⟩ = some (.string qm) ∧ W.cell? ⟨wr.heap.size, 1, none⟩ = some (.string qp)))
        have HW5 := Lib.hid (fun (W : World) (h : Below w5.heap.size w5 W) => HB5.out.trans (h.mono HB5.out.size))
        have HM1 := Lib.hid (fun (W : World) (h : Below w5.heap.size w5 W) => Match_any t sl (plA la) qm qp W (HT.out.below (HW5.out W h)) (by omega) (HG.out W (HBW.out W (HW5.out W h))))
        have HP1 := Lib.hid (fun (W : World) (h : Below w5.heap.size w5 W) => plain_any A c la W (HR.out W (HBW.out W (HW5.out W h))) (HM.out W (HBW.out W (HW5.out W h))) HK.out)
        have HF1 := Lib.hid (fun (W : World) (QA : Option Addr) (qc : Nat) (lp : List Rv) (ho : OwnR 0 W (.slice QA lp.length qc) lp) (hp : plR lp = plA la) => (show Calls Tryz.prog 22 #[.slice QA lp.length qc, .bool sl, .string qm, .string qp] W (GivesRm W (matchP (plA la) sl qm qp)) from by
          have := rFind_any QA qc lp sl qm qp W (own_row ho.row) ho.ok (by rw [hp]; exact HK.out) (by omega)
          rw [hp] at this
          exact this))
        have HAL := Lib.hid (match_len HT.out qm qp)
        have HPL := Lib.hid (match_par HT.out qm qp)
        have hS0 := HSB.out _ (below_drew (Below.refl w5.heap.size w5))
        have HD := Lib.hid (below_drew (Below.refl w5.heap.size w5))
        generalize matchP (plA la) sl qm qp = ma at *
        go_region_held3 (fun w' => w'.cell? ⟨wr.heap.size, 0, none⟩ = some (.string qm) ∧ w'.cell? ⟨wr.heap.size, 1, none⟩ = some (.string qp)) (first | exact hS0 | exact HSB.out _ HB9.out | exact HSB.out _ HB8.out | exact HSB.out _ HB7.out | exact HSB.out _ HB6.out) (first
          | (go_at_call 18; (with_reducible refine (HM1.out _ HD.out).mono ?_); rintro e w6 ⟨PA, pc, AA, ac, rfl, hop, hoa, hb6⟩; (have HB6 := Lib.hid (HD.out.trans (hb6.mono HD.out.size))); (have HX6 := Lib.hid (fun (W : World) (h : Below w6.heap.size w6 W) => (⟨(own_row hop).below h, (own_row hoa).below h⟩ : Row W PA (flat3 ma.par) ∧ Row W AA (ma.allow.map .string)))); clear hop hoa hb6)
          | (go_at_call 15; (with_reducible refine (HP1.out _ HB6.out).mono ?_); rintro e w7 ⟨QA, qc, lp, rfl, hO7, hpl7, hb7⟩; (have HB7 := Lib.hid (HB6.out.trans (hb7.mono HB6.out.size))); (have HX7 := Lib.hid (fun (W : World) (h : Below w7.heap.size w7 W) => HX6.out W (hb7.trans (h.mono hb7.size)))); (have HFI := Lib.hid (HF1.out w7 QA qc lp (hO7.mono (Nat.zero_le _)) hpl7)); clear hO7 hpl7 hb7)
          | (go_at_call 22; (with_reducible refine HFI.out.mono ?_); rintro e w8 ⟨PB, pd, AB, ad, rfl, hop, hoa, hb8⟩; (have HB8 := Lib.hid (HB7.out.trans (hb8.mono HB7.out.size))); (have HX8 := Lib.hid (HX7.out w8 hb8)); (have HSM := Lib.hid (same_any ma.kind ma.route ma.pat ma.dest ma.par ma.allow PA AA PB AB pc ac pd ad w8 HX8.out.1 hop HX8.out.2 hoa HPL.out (by have := HAL.out; omega))); clear hop hoa hb8)
          | (go_at_call 21; (with_reducible refine HSM.out.mono ?_); rintro e w9 ⟨rfl, hb9⟩; (have HB9 := Lib.hid (HB8.out.trans (hb9.mono HB8.out.size))); clear hb9))
        have HW9 := Lib.hid (fun (W : World) (h : Below w9.heap.size w9 W) => HB9.out.trans (h.mono HB9.out.size))
        clear HX6 HX7 HX8 HFI HSM HM1 HF1 hS0 HD
        go_upto_region 11 with (fail)
        have hS9 := HSB.out _ (below_drew HB9.out)
        have HD9 := Lib.hid (below_drew HB9.out)
        have HAF := Lib.hid (fun (W : World) (QA : Option Addr) (qc : Nat) (lp : List Rv) (ho : OwnR 0 W (.slice QA lp.length qc) lp) (hp : plR lp = plA la) => (show Calls Tryz.prog 23 #[.slice QA lp.length qc, .string qp] W (GivesAl W (allowR (plA la) qp)) from by
          have := rAllow_any QA qc lp qp W (own_row ho.row) ho.ok (by rw [hp]; exact HK.out) (by omega)
          rw [hp] at this
          exact this))
        go_region_held3 (fun w' => w'.cell? ⟨wr.heap.size, 0, none⟩ = some (.string qm) ∧ w'.cell? ⟨wr.heap.size, 1, none⟩ = some (.string qp)) (first | exact hS9 | exact HSB.out _ HB11.out | exact HSB.out _ HB10.out) (first
          | (go_at_call 15; (with_reducible refine (HP1.out _ HD9.out).mono ?_); rintro e w10 ⟨QB, qd, lq, rfl, hO10, hpl10, hb10⟩; (have HB10 := Lib.hid (HD9.out.trans (hb10.mono HD9.out.size))); (have HFA := Lib.hid (HAF.out w10 QB qd lq (hO10.mono (Nat.zero_le _)) hpl10)); clear hO10 hpl10 hb10)
          | (go_at_call 23; (with_reducible refine HFA.out.mono ?_); rintro e w11 ⟨RA, rc, rfl, hoa, hb11⟩; (have HB11 := Lib.hid (HB10.out.trans (hb11.mono HB10.out.size))); (have HO11 := Lib.hid hoa); clear hoa hb11))
        obtain ⟨_, e0, hS11⟩ : ∃ x, x = w11 ∧ (w11.cell? ⟨wr.heap.size, 0, none⟩ = some (.string qm) ∧ w11.cell? ⟨wr.heap.size, 1, none⟩ = some (.string qp)) := ⟨_, rfl, HSB.out _ HB11.out⟩
        clear e0
        obtain ⟨g0, g1⟩ := hS11
        have hl11 : wr.heap.size < w11.heap.size := Nat.lt_of_lt_of_le HN5.out.lt HB11.out.size
        have HAX := Lib.hid ((Allow_any t sl (plA la) qp w11 (HT.out.below (HW5.out _ HB11.out)) (by omega) (HG.out _ (HBW.out _ (HW5.out _ HB11.out)))).mono fun e w' h => gives_tx_eq h (allow_two (plA la) qp))
        have HLN := Lib.hid (rallow_len HK.out qp)
        generalize (allowR (plA la) qp).getD [] = al at *
        go_wp2_with fail
        refine HAX.out.mono ?_
        rintro e w12 ⟨RB, rd, rfl, hob, hb12⟩
        have HB12 := Lib.hid (HB11.out.trans (hb12.mono HB11.out.size))
        have HTX := Lib.hid (textsSS_any rd rc al w12 (own_row hob) ((own_row HO11.out).below hb12) (by have := HLN.out; omega))
        clear hob hb12 HAX
        go_wp2_with fail
        refine HTX.out.mono ?_
        rintro e w13 ⟨rfl, hb13⟩
        have HB13 := Lib.hid (HW5.out _ (HB12.out.trans (hb13.mono HB12.out.size)))
        clear hb13
        go_wp2
        go_roundw
        case rel => exact ⟨k + 1, by omega, by go_num, HB13⟩
        case measure => simp [RowKit.intOf]; omega
      · obtain rfl : k = qs.length := by omega
        go_wp2
        go_ret
        exact ⟨rfl, HBW.out wr HB.out⟩
end Go.Proofs.YtiohmnhbmmhnhaaGreatDoor
