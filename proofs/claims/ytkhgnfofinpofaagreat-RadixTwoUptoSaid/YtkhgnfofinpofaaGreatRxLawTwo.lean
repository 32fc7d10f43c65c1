/-
  The walk of RadixTwo.
-/
import Derived.Test.YtkhgnfofinpofaaGreatRxLawPlays
namespace Go.Proofs.YtkhgnfofinpofaaGreat
open Go.RowKit Go.Shelf Go.Lib
attribute [local go_sem] Oper.semAt_some

theorem Both.turn {V : Nat → Prop} {w0 w w' : World} {q q' B : Nat} {es : List En} {A : Option Addr} (h : Both V w0 w q es A B) (hV : V q') (ht : Turn q' w w') (h0 : w0.heap.size ≤ q') : Both V w0 w' q es A B :=
  ⟨h.1.turn hV ht h0, h.2.hold (ht.hold (fun k => k.2 hV))⟩
theorem Both.more {V : Nat → Prop} {w0 w : World} {q B B' : Nat} {es : List En} {A : Option Addr} (h : Both V w0 w q es A B) (hB : B ≤ B') : Both V w0 w q es A B' := ⟨h.1.more hB, h.2⟩
theorem Both.below {V : Nat → Prop} {w0 w w' : World} {q B : Nat} {es : List En} {A : Option Addr} (h : Both V w0 w q es A B) (hb : Below w.heap.size w w') : Both V w0 w' q es A B := ⟨h.1.below hb, h.2.hold (Hold.of_below hb)⟩
theorem bulkO_end {l : List OpR} {k : Nat} (h : ¬ k < l.length) : bulkO (l.take (k + 1)) = bulkO (l.take k) := by rw [List.take_of_length_le (by omega), List.take_of_length_le (by omega)]
/-- One step of a script. -/
theorem step_at (V : Nat → Prop) (w0 w : World) (q : Nat) (es : List En) (A : Option Addr) (c : Nat) (l : List OpR) (k : Nat) (x : OpR) (hx : l[k]? = some x) (h : Both V w0 w q es A (bulkO (l.take k))) (hB : bulkO l ≤ 1048576) (hg : Glob w0) :
    Calls Tryz.prog 7 #[.pointer (some ⟨q, 0, none⟩), .slice A es.length c, .agg #[.int .i64 x.1, .string x.2.1, .int .i64 x.2.2]] w fun e w' =>
      ∃ es' A' c', e = .returned (.tuple #[.slice A' es'.length c', .bool true]) ∧ Both V w0 w' q es' A' (bulkO (l.take (k + 1))) ∧ Turn q w w' := by
  have h1 := bulkO_take hx
  have h2 := bulkO_take_le l (k + 1)
  refine (step_any V w0 w q _ es A c x h.1 h.2 (by omega) hg).mono ?_
  rintro e w' ⟨es', A', c', rfl, hk, hr, ht⟩
  exact ⟨es', A', c', rfl, ⟨hk.more (by rw [h1]; omega), hr⟩, ht⟩
set_option maxRecDepth 100000 in
set_option maxHeartbeats 8000000 in
theorem RadixTwo_walk (A : Option Addr) (c : Nat) (l : List OpR) (A2 : Option Addr) (c2 : Nat) (m : List OpR) (w : World) (hr : Row w A (flatO l)) (hr2 : Row w A2 (flatO m)) (hk : bulkO l + bulkO m ≤ 1048576) (hg : Glob w) :
    Calls Tryz.prog 4 #[.slice A l.length c, .slice A2 m.length c2] w fun e w' => e = .returned (.bool true) ∧ Below w.heap.size w w' := by
  have HN := Lib.hid (New_any w)
  have HG := Lib.hid hg
  have HR := Lib.hid hr
  have HR2 := Lib.hid hr2
  have hll : l.length ≤ 1048576 := Nat.le_trans (bulkO_len l) (by omega)
  have hml : m.length ≤ 1048576 := Nat.le_trans (bulkO_len m) (by omega)
  have HKL := Lib.hid (show bulkO l ≤ 1048576 by omega)
  have HKM := Lib.hid (show bulkO m ≤ 1048576 by omega)
  clear hg hr hr2 hk
  go_enter Tryz.func4, Tryz.ntmps4
  go_wp2_with fail
  refine HN.out.mono ?_
  rintro e w1 ⟨rfl, ht1, hb1, hz1⟩
  have HN2 := Lib.hid (New_any w1)
  rw [hz1] at HN2
  go_wp2_with fail
  refine HN2.out.mono ?_
  rintro e w2 ⟨rfl, ht2, hb2, hz2⟩
  replace hb2 : Below w1.heap.size w1 w2 := by rw [hz1]; exact hb2
  have B2 := hb1.trans (hb2.mono hb1.size)
  have HA := Lib.hid (show Both (fun b => b = w.heap.size + 2 + 1) w w2 (w.heap.size + 1) [] none 0 from ⟨⟨_, ht1.below hb2, GoodE.nil, Nat.le_refl _, by omega, B2, fun b hb => by subst hb; exact ⟨by omega, by omega, by omega⟩⟩, fun h => absurd h (Nat.lt_irrefl 0)⟩)
  have HB := Lib.hid (show Both (fun b => b = w.heap.size + 1) w w2 (w.heap.size + 2 + 1) [] none 0 from ⟨⟨_, ht2, GoodE.nil, Nat.le_refl _, by omega, B2, fun b hb => by subst hb; exact ⟨by omega, by omega, by omega⟩⟩, fun h => absurd h (Nat.lt_irrefl 0)⟩)
  clear ht1 ht2 hb1 hb2 hz1 hz2 HN HN2
  go_wp2_with fail
  refine (awake_any _ (HG.out.beyond B2)).mono ?_
  rintro e w3 ⟨rfl, hb3⟩
  have HA3 := Lib.hid (HA.out.below hb3)
  have HB3 := Lib.hid (HB.out.below hb3)
  have ha0 : w.heap.size ≤ w.heap.size + 1 := by omega
  have hb0 : w.heap.size ≤ w.heap.size + 2 + 1 := by omega
  have HA0 := Lib.hid ha0
  have HB0 := Lib.hid hb0
  clear HA HB B2 hb3 ha0 hb0
  generalize hqa : w.heap.size + 1 = qa at *
  generalize hqb : w.heap.size + 2 + 1 = qb at *
  clear hqa hqb
  go_wp2
  go_loopw [7, 8, 9] (fun lv mv iv wr => ∃ (k : Nat) (es em : List En) (KA : Option Addr) (kc : Nat) (MA : Option Addr) (mc : Nat), (k ≤ l.length ∨ k ≤ m.length) ∧ iv = .int .i64 (k : Int) ∧ lv = .slice KA es.length kc ∧ mv = .slice MA em.length mc ∧ Hid (Both (fun b => b = qb) w wr qa es KA (bulkO (l.take k))) ∧ Hid (Both (fun b => b = qa) w wr qb em MA (bulkO (m.take k)))) (fun _ _ iv _ => (l.length + m.length) - (RowKit.intOf iv).toNat)
  case atStart => exact ⟨0, [], [], _, _, _, _, .inl (by omega), rfl, rfl, rfl, Lib.hid ⟨HA3.out.1.below (by first | exact Below.refl _ _ | exact (Below.refl _ _).alloc (Nat.le_refl _) _ | exact ((Below.refl _ _).alloc (Nat.le_refl _) _).alloc (by simp) _), fun h => absurd h (Nat.lt_irrefl 0)⟩, Lib.hid ⟨HB3.out.1.below (by first | exact Below.refl _ _ | exact (Below.refl _ _).alloc (Nat.le_refl _) _ | exact ((Below.refl _ _).alloc (Nat.le_refl _) _).alloc (by simp) _), fun h => absurd h (Nat.lt_irrefl 0)⟩⟩
  case round =>
    obtain ⟨k, es, em, KA, kc, MA, mc, hkl, rfl, rfl, rfl, HA, HB⟩ := hrel
    have hk2 : (k : Int) + 1 ≤ 1048577 := by omega
    clear HA3 HB3
    by_cases hl : k < l.length
    · obtain ⟨x, hx⟩ := some_of_lt hl
      have hlI : (k : Int) < (l.length : Int) := by omega
      obtain ⟨b, off, rfl, hb, f0, f1, f2⟩ := (HR.out.below HA.out.1.kp.base).op hx
      have HS := Lib.hid (step_at _ w wr qa es KA kc l k x hx HA.out HKL.out HG.out)
      clear hx
      obtain ⟨x0, x1, x2⟩ := x
      dsimp only at f0 f1 f2 HS
      by_cases hm : k < m.length
      · obtain ⟨y, hy⟩ := some_of_lt hm
        have hmI : (k : Int) < (m.length : Int) := by omega
        obtain ⟨b2, off2, rfl, hb2, g0, g1, g2⟩ := HR2.out.op hy
        have HS2 := Lib.hid (fun W (h : Both (fun b => b = qa) w W qb em MA (bulkO (m.take k))) => step_at _ w W qb em MA mc m k y hy h HKM.out HG.out)
        clear hy
        obtain ⟨y0, y1, y2⟩ := y
        dsimp only at g0 g1 g2 HS2
        go_wp2_with fail
        refine HS.out.mono ?_
        rintro e w4 ⟨es', KA', kc', rfl, hk4, ht4⟩
        have HA4 := Lib.hid hk4
        have HB4 := Lib.hid (HB.out.turn rfl ht4 HA0.out)
        have hBa := hk4.1.kp.base
        have c0 := (hBa.cell (p := ⟨b2, off2 + k * 3, none⟩) hb2).trans g0
        have c1 := (hBa.cell (p := ⟨b2, off2 + k * 3 + 1, none⟩) hb2).trans g1
        have c2 := (hBa.cell (p := ⟨b2, off2 + k * 3 + 2, none⟩) hb2).trans g2
        have hb4 := Nat.lt_of_lt_of_le hb2 hBa.size
        clear hk4 ht4 HS f0 f1 f2 g0 g1 g2 HA HB hBa
        go_wp2_with fail
        refine (HS2.out _ HB4.out).mono ?_
        rintro e w5 ⟨em', MA', mc', rfl, hk5, ht5⟩
        have HA5 := Lib.hid (HA4.out.turn rfl ht5 HB0.out)
        have HB5 := Lib.hid hk5
        clear hk5 ht5 HS2 HA4 HB4 c0 c1 c2
        go_wp2
        go_roundw
        case rel => exact ⟨k + 1, es', em', KA', kc', MA', mc', .inl (by omega), by go_num, rfl, rfl, HA5, HB5⟩
        case measure => simp [RowKit.intOf]; omega
      · have hmI : ¬ (k : Int) < (m.length : Int) := by omega
        have HBE := Lib.hid (bulkO_end hm)
        go_wp2_with fail
        refine HS.out.mono ?_
        rintro e w4 ⟨es', KA', kc', rfl, hk4, ht4⟩
        have HA4 := Lib.hid hk4
        have HB4 := Lib.hid (show Both (fun b => b = qa) w w4 qb em MA (bulkO (m.take (k + 1))) from by rw [HBE.out]; exact HB.out.turn rfl ht4 HA0.out)
        clear hk4 ht4 HS f0 f1 f2 HA HB
        go_wp2
        go_roundw
        case rel => exact ⟨k + 1, es', em, KA', kc', MA, mc, .inl (by omega), by go_num, rfl, rfl, HA4, HB4⟩
        case measure => simp [RowKit.intOf]; omega
    · have hlI : ¬ (k : Int) < (l.length : Int) := by omega
      have HLE := Lib.hid (bulkO_end hl)
      by_cases hm : k < m.length
      · obtain ⟨y, hy⟩ := some_of_lt hm
        have hmI : (k : Int) < (m.length : Int) := by omega
        obtain ⟨b2, off2, rfl, hb2, g0, g1, g2⟩ := (HR2.out.below HB.out.1.kp.base).op hy
        have HS2 := Lib.hid (step_at _ w wr qb em MA mc m k y hy HB.out HKM.out HG.out)
        clear hy
        obtain ⟨y0, y1, y2⟩ := y
        dsimp only at g0 g1 g2 HS2
        go_wp2_with fail
        refine HS2.out.mono ?_
        rintro e w5 ⟨em', MA', mc', rfl, hk5, ht5⟩
        have HA5 := Lib.hid (show Both (fun b => b = qb) w w5 qa es KA (bulkO (l.take (k + 1))) from by rw [HLE.out]; exact HA.out.turn rfl ht5 HB0.out)
        have HB5 := Lib.hid hk5
        clear hk5 ht5 HS2 HA HB g0 g1 g2
        go_wp2
        go_roundw
        case rel => exact ⟨k + 1, es, em', KA, kc, MA', mc', .inr (by omega), by go_num, rfl, rfl, HA5, HB5⟩
        case measure => simp [RowKit.intOf]; omega
      · have hmI : ¬ (k : Int) < (m.length : Int) := by omega
        have hsa := HA.out.1.kp.sum
        have hea := sumE_len es
        have hta := bulkO_take_le l k
        have hsb := HB.out.1.kp.sum
        have heb := sumE_len em
        have htb := bulkO_take_le m k
        have hkl2 := HKL.out
        have hkm2 := HKM.out
        have HW := Lib.hid (fun W (hb : Below wr.heap.size wr W) => (HA.out.1.below hb).elim fun S h => whole_any S KA kc es qa W h.1 (HA.out.2.row.below hb) (by omega))
        have HW2 := Lib.hid (fun W (hb : Below wr.heap.size wr W) => (HB.out.1.below hb).elim fun S h => whole_any S MA mc em qb W h.1 (HB.out.2.row.below hb) (by omega))
        have HND := Lib.hid (fun W (hb : Below wr.heap.size wr W) => NodesK (HA.out.1.below hb).kp (by omega))
        have HN2 := Lib.hid (fun W (hb : Below wr.heap.size wr W) => rNodes_any KA kc es W (HA.out.2.row.below hb) HA.out.1.kp.good (by omega))
        have HBA := Lib.hid HA.out.1.kp.base
        have e2 : (((nodesE es : Nat) : Int) == ((nodesE es : Nat) : Int)) = true := by simp
        clear HA HB hsa hsb hta htb hkl2 hkm2
        go_wp2_with fail
        refine (HW.out _ (Below.refl _ _)).mono ?_
        rintro e w4 ⟨rfl, B4⟩
        go_wp2_with fail
        refine (HW2.out _ B4).mono ?_
        rintro e w5 ⟨rfl, hb5⟩
        have B5 := B4.trans (hb5.mono B4.size)
        go_wp2_with fail
        refine (HND.out _ B5).mono ?_
        rintro e w6 ⟨rfl, hd6⟩
        have B6 := B5.trans (hd6.below.mono B5.size)
        clear hd6 hb5 B5 B4
        go_wp2_with fail
        refine (HN2.out _ B6).mono ?_
        rintro e w7 ⟨rfl, hb7⟩
        have B7 := B6.trans (hb7.mono B6.size)
        have hbF := HBA.out.trans (B7.mono HBA.out.size)
        clear hb7 B6
        go_wp2
        go_ret
        exact ⟨rfl, hbF⟩
end Go.Proofs.YtkhgnfofinpofaaGreat
