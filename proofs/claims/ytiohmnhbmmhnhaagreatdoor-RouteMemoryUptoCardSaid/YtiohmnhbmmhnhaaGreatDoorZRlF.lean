/-
 RlF, without what this claim does not reach.
-/
import Derived.Test.YtiohmnhbmmhnhaaGreatDoorZRlD
import Derived.Test.YtiohmnhbmmhnhaaGreatDoorZRlJ
import Derived.Test.YtiohmnhbmmhnhaaGreatDoorZRxV
import Derived.Deep.DeepCutAuto
import Derived.Test.YtiohmnhbmmhnhaaGreatDoorZRlB
import Derived.Defers
import Derived.Recover
import Derived.Test.YtiohmnhbmmhnhaaGreatDoorZRxR
import Derived.Test.YtiohmnhbmmhnhaaGreatDoorZTgNo
import Derived.Test.YtiohmnhbmmhnhaaGreatDoorZTgLib
namespace Go.Proofs.YtiohmnhbmmhnhaaGreatDoor
open Go.RowKit Go.Shelf Go.Lib
def pcsE (es : List En) : List (List Pc) := es.map fun x => x.2.2.1
def treeP (ls : List (List Pc)) : Tr := buildP (meas (waysP ls) + 1) (waysP ls)
def twiceV : Value := .iface 153 (.agg #[.int .i64 131])
def GivesPlant (w : World) (q : Nat) (v : Value) (ls : List (List Pc)) (e : Ending) (w' : World) : Prop :=
 (¬ dupL ls ∧ e = .returned (.tuple #[]) ∧ ∃ w1 q' T, w' = (w1.setCell ⟨q, 0, none⟩ v).setCell ⟨q, 1, none⟩ (.pointer q') ∧ Below w.heap.size w w1 ∧ treeP ls = T ∧ (At (fun b => w.heap.size ≤ b) T).1 w1 (.pointer q')) ∨
 (dupL ls ∧ (∃ u, e = .panicked [{ v := u, recovered := false }] ∧ u = twiceV) ∧ Below w.heap.size w w')
theorem pcsE_get {es : List En} {k : Nat} {x : En} (h : es[k]? = some x) : (pcsE es)[k]? = some x.2.2.1 := by unfold pcsE; rw [List.getElem?_map, h]; rfl
set_option maxRecDepth 20000 in
set_option maxHeartbeats 8000000 in
theorem plant_any (q : Nat) (A : Option Addr) (c : Nat) (es : List En) (w : World) (hq : q < w.heap.size) (u0 u1 : Value) (hq0 : w.cell? ⟨q, 0, none⟩ = some u0) (hq1 : w.cell? ⟨q, 1, none⟩ = some u1) (hf0 : w.frozen? ⟨q, 0, none⟩ = false) (hf1 : w.frozen? ⟨q, 1, none⟩ = false)
  (hr : Row w A (flatE es)) (hes : ∀ x ∈ es, Row w x.2.1.1 (flatP x.2.2.1) ∧ ∀ p ∈ x.2.2.1, p.1 = 0 ∨ p.1 = 1 ∨ p.1 = 2) (hld : 3 * loadP (pcsE es) ≤ 4194304) :
  Calls Tryz.prog 78 #[.pointer (some ⟨q, 0, none⟩), .slice A es.length c] w (GivesPlant w q (.slice A es.length c) (pcsE es)) := by
 obtain ⟨j0, hj0, hy0, hy1, hy2⟩ := info_parts info_way
 have hlen : es.length ≤ loadP (pcsE es) := by have := loadP_len (pcsE es); unfold pcsE at this ⊢; rwa [List.length_map] at this
 have htot : ∀ x ∈ es, totP x.2.2.1 ≤ 4194304 ∧ x.2.2.1.length ≤ 4194304 := fun x hx => by
  have h1 := loadP_mem (ls := pcsE es) (l := x.2.2.1) (List.mem_map_of_mem hx)
  have h2 := totP_len x.2.2.1
  omega
 have HO := Lib.hid (fun (W : World) (h : Below w.heap.size w W) (x y : En) (hx : x ∈ es) (hy : y ∈ es) => order_any x.2.1.1 x.2.1.2 x.2.2.1 y.2.1.1 y.2.1.2 y.2.2.1 W ((hes x hx).1.below h) ((hes y hy).1.below h) (htot x hx).2 (htot y hy).2 (fun p hp => by have := (hes x hx).2 p hp; omega) (fun p hp => by have := (hes y hy).2 p hp; omega))
 have HST := Lib.hid (fun (W : World) (h : Below w.heap.size w W) (x : En) (hx : x ∈ es) => steps_any x.2.1.1 x.2.1.2 x.2.2.1 W ((hes x hx).1.below h) (htot x hx).1)
 have HWF := Lib.hid (ways_wf (ls := pcsE es) (fun l hl => by obtain ⟨x, hx, rfl⟩ := List.mem_map.1 hl; exact (hes x hx).2))
 have hmeas := ways_meas (pcsE es)
 have hlen2 : es.length ≤ 4194304 := by omega
 have HM := Lib.hid (show meas (waysP (pcsE es)) ≤ 4194304 by omega)
 have HR := Lib.hid hr
 have HQ := Lib.hid (fun (W : World) (h : Below w.heap.size w W) => (⟨(h.cell (p := ⟨q, 0, none⟩) hq).trans hq0, (h.cell (p := ⟨q, 1, none⟩) hq).trans hq1, (h.frozen (p := ⟨q, 0, none⟩) hq).trans hf0, (h.frozen (p := ⟨q, 1, none⟩) hq).trans hf1⟩ : W.cell? ⟨q, 0, none⟩ = some u0 ∧ W.cell? ⟨q, 1, none⟩ = some u1 ∧ W.frozen? ⟨q, 0, none⟩ = false ∧ W.frozen? ⟨q, 1, none⟩ = false))
 clear hr hes hld hmeas htot hq0 hq1 hf0 hf1 hlen
 go_enter Tryz.func78, Tryz.ntmps78
 go_wp2
 go_loopw [4, 9] (fun v i wr => ∃ (k : Nat) (ws : List Wy), k ≤ es.length ∧ i = .int .i64 k ∧ Hid (ws.map plW = waysP ((pcsE es).take k)) ∧ Hid (ws.length = k) ∧ wr.ownsRow w.heap.size 192 2 v ws.length (flatW ws) ∧ Hid (WOk wr ws) ∧ Below w.heap.size w wr ∧ Hid (∀ j a b, j + 1 < k → (pcsE es)[j]? = some a → (pcsE es)[j + 1]? = some b → ordP a b ≠ 0)) (fun _ i _ => es.length - (RowKit.intOf i).toNat)
 case atStart => exact ⟨0, [], by omega, rfl, Lib.hid rfl, Lib.hid rfl, World.ownsRow_nil _ _ _ _, Lib.hid (fun x hx => by cases hx), Below.refl _ _, Lib.hid (fun j a b h => absurd h (Nat.not_lt_zero _))⟩
 case round =>
  obtain ⟨k, ws, hk, rfl, HW, HWL, hown, HWO, hbw, HND⟩ := hrel
  obtain ⟨OA, Oc, rfl⟩ := own_slice hown
  by_cases hlt : k < es.length
  ·obtain ⟨x, hx⟩ := some_of_lt hlt
   have hmem := List.mem_of_getElem? hx
   obtain ⟨b, off, rfl, hb, f0, f1, f2⟩ := Row.en (HR.out.below hbw) hx
   have HX := Lib.hid hx
   have HS1 := Lib.hid (fun (W : World) (h : Below w.heap.size w W) => HST.out W h x hmem)
   obtain ⟨p, ⟨XA, xc⟩, xl, xv⟩ := x
   dsimp only at f0 f1 f2 HS1
   have hb1 := hbw.alloc hbw.size (.cells #[.string p, .slice XA xl.length xc, .slice xv.1 xv.2.1 xv.2.2] 150)
   have hown1 := hown.alloc (.cells #[.string p, .slice XA xl.length xc, .slice xv.1 xv.2.1 xv.2.2] 150)
   have HWO1 := Lib.hid (HWO.out.alloc (.cells #[.string p, .slice XA xl.length xc, .slice xv.1 xv.2.1 xv.2.2] 150))
   have HB0 := Lib.hid hbw
   go_upto_region 4 with (fail)
   have e1 : (wr.alloc (.cells #[.string p, .slice XA xl.length xc, .slice xv.1 xv.2.1 xv.2.2] 150)).cell? ⟨wr.heap.size, 1, none⟩ = some (.slice XA xl.length xc) := by rw [World.cell?_alloc_new]; rfl
   have hsz1 : wr.heap.size < (wr.alloc (.cells #[.string p, .slice XA xl.length xc, .slice xv.1 xv.2.1 xv.2.2] 150)).heap.size := by simp
   obtain ⟨nb, hnb⟩ : ∃ nb, nb = wr.heap.size := ⟨_, rfl⟩
   rw [← hnb] at e1 hsz1 ⊢
   clear hnb
   generalize wr.alloc (.cells #[.string p, .slice XA xl.length xc, .slice xv.1 xv.2.1 xv.2.2] 150) = wa at *
   go_cut [27] (fun y wx => ∃ d : Bool, y = .bool d ∧ Hid (d = true ↔ ∃ j a b, j + 1 = k ∧ (pcsE es)[j]? = some a ∧ (pcsE es)[k]? = some b ∧ ordP a b = 0) ∧ Hid (Drawn wa wx))
   case first =>
    clear hown1 HWO1 HS1 HWO HW HST HND
    by_cases hk0 : k = 0
    ·have g0 : ¬ 0 < k := by omega
     have g1 : ¬ (0 : Int) < (k : Int) := by omega
     have HZ := Lib.hid hk0
     clear hk0
     go_wp2_with (fail)
     go_quiet (fail)
     go_wp2_with (fail)
     go_meet
     exact ⟨false, rfl, Lib.hid ⟨(fun h => by cases h), (fun ⟨j, a, b, h, _⟩ => by have := HZ.out; omega)⟩, Lib.hid ((Drawn.refl _).drew _)⟩
    ·obtain ⟨j, hj⟩ : ∃ j, k = j + 1 := ⟨k - 1, by omega⟩
     have g0 : 0 < k := by omega
     have g1 : (0 : Int) < (k : Int) := by omega
     obtain ⟨y, hy⟩ := some_of_lt (show j < es.length by omega)
     have hmy := List.mem_of_getElem? hy
     obtain ⟨b2, off2, e2, _, k0, k1, k2⟩ := Row.en (HR.out.below hb1) hy
     injection e2 with e2
     injection e2 with e2 e3
     subst e2
     subst e3
     have hkj : IntKind.i64.wrap ((k : Int) - 1) = (j : Int) := by rw [IntKind.wrap_i64]; omega
     have hkj2 : (k : Int) - 1 = (j : Int) := by omega
     have hji : (j : Int) < (es.length : Int) := by omega
     have HO2 := Lib.hid (fun (W : World) (h : Drawn wa W) => HO.out W (hb1.trans (h.below.mono hb1.size)) y (p, (XA, xc), xl, xv) hmy hmem)
     have HD1 := Lib.hid (show (∃ j' a b, j' + 1 = k ∧ (pcsE es)[j']? = some a ∧ (pcsE es)[k]? = some b ∧ ordP a b = 0) ↔ ordP y.2.2.1 xl = 0 from by
      constructor
      ·rintro ⟨j', a, b, h1, h2, h3, h4⟩
       obtain rfl : j' = j := by omega
       rw [pcsE_get hy] at h2
       rw [pcsE_get hx] at h3
       have h2 : y.2.2.1 = a := by injection h2
       have h3 : xl = b := by injection h3
       rw [h2, h3]
       exact h4
      ·intro h
       exact ⟨j, _, _, by omega, pcsE_get hy, pcsE_get hx, h⟩)
     obtain ⟨p', ⟨YA, yc⟩, yl, yv⟩ := y
     dsimp only at k0 k1 k2 HO2 HD1
     obtain ⟨o, ho⟩ : ∃ o, o = ordP yl xl := ⟨_, rfl⟩
     rw [← ho] at HO2 HD1
     clear ho hj hy hmy hx hmem HO
     go_wp2_with (fail)
     go_quiet (first | (go_at_call 52; exact Calls.quiet_of ((HO2.out _ (by first | exact Drawn.refl _ | exact (Drawn.refl _).drew _)).mono fun e' w' h => ⟨h.1, h.2⟩)))
     go_wp2_with (fail)
     go_meet
     exact ⟨decide (o = 0), rfl, Lib.hid (by rw [HD1.out]; exact ⟨of_decide_eq_true, decide_eq_true⟩), Lib.hid ((Drawn.refl _).drew _)⟩
   obtain ⟨d, rfl, HD, HDW⟩ := hcut
   have hbc := hb1.trans (HDW.out.below.mono hb1.size)
   cases d
   ·have e2 : wc.cell? ⟨nb, 1, none⟩ = some (.slice XA xl.length xc) := (HDW.out.below.cell (p := ⟨nb, 1, none⟩) hsz1).trans e1
    have hown2 := own_below hown1 HDW.out.below
    have HWO2 := Lib.hid (HWO1.out.below HDW.out.below)
    have hst := HS1.out wc hbc
    have HST2 := Lib.hid hst
    have HND2 := Lib.hid (fun (j : Nat) (a b : List Pc) (hj : j + 1 < k + 1) (ha : (pcsE es)[j]? = some a) (hb : (pcsE es)[j + 1]? = some b) => (show ordP a b ≠ 0 from by
     by_cases e : j + 1 = k
     ·intro h0
      have := HD.out.2 ⟨j, a, b, e, ha, by rw [← e]; exact hb, h0⟩
      cases this
     ·exact HND.out j a b (by omega) ha hb))
    have hkn : ws.length ≤ 4194304 := by have := HWL.out; omega
    have HWS := Lib.hid (show waysP ((pcsE es).take (k + 1)) = waysP ((pcsE es).take k) ++ [(k, stepsP xl)] by
     have h1 : (pcsE es)[k]? = some xl := pcsE_get hx
     rw [take_snoc h1, waysP_snoc]
     congr 1
     rw [List.length_take]
     unfold pcsE
     rw [List.length_map, Nat.min_eq_left (by omega)])
    clear HS1 hst HND HD e1 hown hown1 HWO HWO1 hx hmem hsz1 hb1 hbw HO HST
    go_wp2_with fail
    refine HST2.out.mono ?_
    rintro e w1 ⟨SA, sc, rfl, hso, hb3⟩
    have hbs := hbc.trans (hb3.mono hbc.size)
    have hown3 := own_below hown2 hb3
    have HONE := Lib.hid (WOne.own (k := k) hso)
    have HWO3 := Lib.hid (HWO2.out.below hb3)
    generalize hsl : stepsP xl = sl at *
    clear HWO2 hown2 hb3 HST2 hso e2 hbc HDW
    go_wp2_with (at_builtin; refine wpList_append_any _ rfl (.tmp 30) (.tmp 36) 189 rfl w.heap.size 192 j0 (.agg #[.int .i64 0, .slice none 0 0]) 2 32 Tryz.underlying189 hj0 hy0 hy1 hy2 rfl (by decide) _ _ _ rfl (hown3.alloc _) _ (some ⟨w1.heap.size, 0, none⟩) 1 1 [.int .i64 (k : Int), .slice SA sl.length sc] rfl (reads_of_row (row_newc w1 _ 192 (by simp)) rfl (by decide)) (by intro u hu; simp at hu; rcases hu with rfl | rfl <;> rfl) (by unfold maxLen; omega) (by omega) (by have := hbs.size; simp; omega) ?_; intro va wv hownv hgv altv)
    have hbv := (hbs.alloc hbs.size (.cells #[.int .i64 (k : Int), .slice SA sl.length sc] 192)).grown hgv (by have := hbs.size; simp; omega) (own_lt hown3)
    have hov : wv.ownsRow w.heap.size 192 2 va (ws ++ [((k, (SA, sc), sl) : Wy)]).length (flatW (ws ++ [((k, (SA, sc), sl) : Wy)])) := by rw [flatW_append, List.length_append]; exact hownv
    have HWO4 := Lib.hid (((HWO3.out.append (WOk.one HONE.out)).alloc (.cells #[.int .i64 (k : Int), .slice SA sl.length sc] 192)).grown (hown3.alloc _) (by decide) hgv)
    have HW4 := Lib.hid (show (ws ++ [((k, (SA, sc), sl) : Wy)]).map plW = waysP ((pcsE es).take (k + 1)) by rw [HWS.out, List.map_append, HW.out]; rfl)
    have HOV := Lib.hid hov
    have HL4 := Lib.hid (show (ws ++ [((k, (SA, sc), sl) : Wy)]).length = k + 1 by rw [List.length_append, HWL.out]; rfl)
    clear hownv hgv altv hov HWO3 HONE hown3 HWS HW
    go_wp2
    go_roundw
    case rel => exact ⟨k + 1, ws ++ [((k, (SA, sc), sl) : Wy)], by omega, by go_num, HW4, HL4, HOV.out, HWO4, hbv, HND2⟩
    case measure => simp [RowKit.intOf]; omega
   ·obtain ⟨j, a, b', h1, h2, h3, h4⟩ := HD.out.1 rfl
    have HDUP := Lib.hid (show dupL (pcsE es) from ⟨j, a, b', h2, by rw [h1]; exact h3, h4⟩)
    clear HD h1 h2 h3 h4 HST HO HS1 HND HWF HM HQ
    go_wp2
    exact ⟨rfl, .inr ⟨HDUP.out, ⟨_, rfl, rfl⟩, hbc⟩⟩
  ·obtain rfl : k = es.length := by omega
   have hfull : (pcsE es).take es.length = pcsE es := by
    have : (pcsE es).length = es.length := by unfold pcsE; rw [List.length_map]
    rw [← this, List.take_length]
   have hmap : ws.map plW = waysP (pcsE es) := by rw [HW.out, hfull]
   have hwl := HWL.out
   have hent : ∀ x ∈ ws, x.1 ≤ 4194304 := fun x hx => by
    have h1 : plW x ∈ waysP (pcsE es) := by rw [← hmap]; exact List.mem_map_of_mem hx
    obtain ⟨_, _, _, _, h2⟩ := waysGo_mem h1
    have h3 : (pcsE es).length = es.length := by unfold pcsE; rw [List.length_map]
    have h4 : (plW x).1 = x.1 := rfl
    omega
   have hB := build_any (meas (waysP (pcsE es)) + 1) OA Oc ws wr (own_row hown) HWO.out (by rw [hmap]; exact HWF.out) (by rw [hmap]; omega) (by rw [hmap]; exact HM.out) (by omega) hent
   rw [hmap] at hB
   obtain ⟨T, hT⟩ : ∃ T, treeP (pcsE es) = T := ⟨_, rfl⟩
   rw [show buildP (meas (waysP (pcsE es)) + 1) (waysP (pcsE es)) = T from hT] at hB
   have HB := Lib.hid hB
   have HTT := Lib.hid hT
   clear hT
   have HND2 := Lib.hid (show ¬ dupL (pcsE es) from fun ⟨j, a, b, h1, h2, h3⟩ => HND.out j a b (by have := (List.getElem?_eq_some_iff.1 h2).1; unfold pcsE at this; rw [List.length_map] at this; exact this) h1 h2 h3)
   clear hB hent hmap hfull hwl HND HW HWL HWO hown HO HST HWF HM HR
   go_wp2_with fail
   refine HB.out.mono ?_
   rintro e w1 ⟨q', rfl, hat, hb1⟩
   have hb2 := hbw.trans (hb1.mono hbw.size)
   obtain ⟨g0, g1, g2, g3⟩ := HQ.out w1 hb2
   have g4 : (w1.setCell ⟨q, 0, none⟩ (.slice A es.length c)).cell? ⟨q, 1, none⟩ = some u1 := by
    rw [World.cell?_setCell_other _ _ _ _ (by intro e; injection e with _ e; cases e)]
    exact g1
   have g5 : (w1.setCell ⟨q, 0, none⟩ (.slice A es.length c)).frozen? ⟨q, 1, none⟩ = false := by rw [World.frozen?_setCell]; exact g3
   have HAT := Lib.hid ((At.mono (S' := fun b => w.heap.size ≤ b) (fun b (hb : wr.heap.size ≤ b) _ => Nat.le_trans hbw.size hb) T).1 _ hat)
   clear hat HB HQ
   go_wp2
   go_end0
   exact .inl ⟨HND2.out, rfl, w1, q', T, rfl, hb2, HTT.out, HAT.out⟩
def isNode : Tr → Prop
 | .node _ _ _ _ => True
 | _ => False
def chainLen : Tr → Nat
 | .kid _ _ m => chainLen m + 1
 | _ => 0
theorem chainLen_chain (L : List (ByteArray × Tr)) : chainLen (chain L) = L.length := by
 induction L with
 | nil => rfl
 | cons x L ih => show chainLen (chain L) + 1 = _; rw [ih]; rfl
theorem kidsL_length (B : List Pw → Tr) (ws : List Pw) : ∀ k, (kidsL B ws k).length ≤ k
 | 0 => Nat.le_refl _
 | k + 1 => by
  show (kidsL B ws k ++ kidOne B (groupP k ws)).length ≤ _
  have h := kidsL_length B ws k
  have h2 : (kidOne B (groupP k ws)).length ≤ 1 := by
   unfold kidOne
   split
   ·exact Nat.zero_le _
   ·exact Nat.le_refl _
  rw [List.length_append]
  omega
def FullT : Tr → Prop
 | .none => True
 | .node _ k p r => chainLen k ≤ 256 ∧ FullT k ∧ FullT p ∧ FullT r
 | .kid _ t more => isNode t ∧ FullT t ∧ FullT more
def sizeT : Tr → Nat
 | .none => 0
 | .node _ k p r => sizeT k + sizeT p + sizeT r + 1
 | .kid _ t more => sizeT t + sizeT more + 1
theorem full_chain (L : List (ByteArray × Tr)) : FullT (chain L) ↔ ∀ x ∈ L, isNode x.2 ∧ FullT x.2 := by
 induction L with
 | nil => exact ⟨fun _ x hx => (by cases hx), fun _ => trivial⟩
 | cons x L ih =>
  show isNode x.2 ∧ FullT x.2 ∧ FullT (chain L) ↔ _
  rw [ih]
  constructor
  ·rintro ⟨h1, h2, h3⟩ y hy
   rcases List.mem_cons.1 hy with rfl | hy
   ·exact ⟨h1, h2⟩
   ·exact h3 y hy
  ·intro h
   exact ⟨(h x (List.mem_cons_self ..)).1, (h x (List.mem_cons_self ..)).2, fun y hy => h y (List.mem_cons_of_mem _ hy)⟩
theorem size_chain {L : List (ByteArray × Tr)} {x : ByteArray × Tr} (h : x ∈ L) : sizeT x.2 < sizeT (chain L) + 1 := by
 induction L with
 | nil => cases h
 | cons y L ih =>
  show sizeT x.2 < sizeT y.2 + sizeT (chain L) + 1 + 1
  rcases List.mem_cons.1 h with rfl | h
  ·omega
  ·have := ih h; omega
theorem full_build : ∀ (n : Nat) (ws : List Pw), meas ws < n → wfW ws → isNode (buildP n ws) ∧ FullT (buildP n ws)
 | 0, _, h, _ => absurd h (Nat.not_lt_zero _)
 | n + 1, ws, hm, hw => by
  have hm1 := edge_meas 1 ws
  have hm2 := edge_meas 2 ws
  have he : ∀ k, meas (edgeP k ws) + (edgeP k ws).length ≤ meas ws → FullT (edgeT (buildP n) (edgeP k ws)) := fun k hk => by
   unfold edgeT
   by_cases hne : edgeP k ws = []
   ·rw [if_pos hne]; exact trivial
   ·rw [if_neg hne]
    exact (full_build n _ (by have := List.length_pos_iff.2 hne; omega) hw.edge).2
  refine ⟨trivial, by rw [chainLen_chain]; exact kidsL_length _ _ 256, ?_, he 1 hm1, he 2 hm2⟩
  rw [full_chain]
  have hk : ∀ k x, x ∈ kidsL (buildP n) ws k → isNode x.2 ∧ FullT x.2 := by
   intro k
   induction k with
   | zero => intro x hx; cases hx
   | succ k ih =>
    intro x hx
    have hx : x ∈ kidsL (buildP n) ws k ++ kidOne (buildP n) (groupP k ws) := hx
    rcases List.mem_append.1 hx with hx | hx
    ·exact ih x hx
    ·unfold kidOne at hx
     by_cases hne : groupP k ws = []
     ·rw [if_pos hne] at hx; cases hx
     ·rw [if_neg hne] at hx
      obtain rfl := List.mem_singleton.1 hx
      have h1 := cut_meas (n := (commonP (groupP k ws)).size) (ws := groupP k ws) (fun x hx => by
       obtain ⟨p, r, e, _⟩ := group_first hw hx
       exact ⟨by rw [e]; simp, common_all hx⟩) (common_pos hw hne)
      have h2 := group_meas k ws
      have h3 : 0 < (groupP k ws).length := List.length_pos_iff.2 hne
      exact full_build n _ (by omega) hw.group.cut
  exact hk 256
theorem chain_of {S : Nat → Prop} {w : World} : ∀ (T : Tr) (ts ps : List Value), (At S T).2 w ts ps → ∃ L : List (ByteArray × Tr), T = chain L ∧ ts = L.map (fun x => .string x.1) ∧ KL S w L ps
 | .none, _, _, ⟨e1, e2⟩ => ⟨[], rfl, e1, by rw [e2]; exact trivial⟩
 | .node _ _ _ _, _, _, h => h.elim
 | .kid text t more, ts, ps, ⟨p, ts', ps', e1, e2, h1, h2⟩ => by
  obtain ⟨L, rfl, e3, hk⟩ := chain_of more ts' ps' h2
  exact ⟨(text, t) :: L, rfl, by rw [e1, e3]; rfl, by rw [e2]; exact ⟨h1, hk⟩⟩
theorem KL.at_ {S : Nat → Prop} {w : World} : ∀ (L : List (ByteArray × Tr)) (ps : List Value) (k : Nat) (x : ByteArray × Tr), KL S w L ps → L[k]? = some x → ∃ p, ps[k]? = some p ∧ (At S x.2).1 w p
 | [], _, k, x, _, hx => by simp at hx
 | y :: L, [], _, _, h, _ => h.elim
 | y :: L, p :: ps, 0, x, h, hx => by
  obtain rfl : y = x := by simpa using hx
  exact ⟨p, rfl, h.1⟩
 | y :: L, p :: ps, k + 1, x, h, hx => by
  obtain ⟨q, h1, h2⟩ := KL.at_ L ps k x h.2 (by simpa using hx)
  exact ⟨q, by simpa using h1, h2⟩
theorem Hold.drawn {S : Nat → Prop} {w w' : World} (h : Drawn w w') : Hold S w w' := Hold.of_below h.below
theorem seg_place (l : List UInt8) : findB (⟨(l ++ [47]).toArray⟩ : ByteArray) 47 = ((segN (l.map UInt8.toNat) : Nat) : Int) := by
 have hn : segN (l.map UInt8.toNat) ≤ l.length := by have := segN_le (l.map UInt8.toNat); rwa [List.length_map] at this
 have hbt : ∀ j, bt (⟨(l ++ [47]).toArray⟩ : ByteArray) j = (((l ++ [47]).getD j 0).toNat : Int) := fun j => by
  unfold bt
  simp
 have hg : ∀ (l : List UInt8), ((l ++ [47]).getD (segN (l.map UInt8.toNat)) 0) = 47 ∧ ∀ j, j < segN (l.map UInt8.toNat) → ((l ++ [47]).getD j 0).toNat ≠ 47 := by
  intro l
  induction l with
  | nil => exact ⟨rfl, fun j hj => absurd hj (Nat.not_lt_zero _)⟩
  | cons a l ih =>
   rw [List.map_cons]
   unfold segN
   by_cases h : a.toNat = 47
   ·rw [if_pos h]
    exact ⟨by show a = 47; exact UInt8.toNat_inj.1 h, fun j hj => absurd hj (Nat.not_lt_zero _)⟩
   ·rw [if_neg h]
    refine ⟨ih.1, fun j hj => ?_⟩
    cases j with
    | zero => exact h
    | succ j => exact ih.2 j (by omega)
 obtain ⟨h1, h2⟩ := hg l
 refine findB_at (k := segN (l.map UInt8.toNat)) ?_ ?_ ?_
 ·intro j _ hj
  show (!decide (bt _ j = 47)) = true
  rw [hbt]
  simp
  have := h2 j hj
  simp at this
  omega
 ·show _ < (l ++ [47]).toArray.size
  simp
  omega
 ·rw [hbt, h1]
  rfl
theorem seg_find (s : ByteArray) : findB (s ++ slashR) 47 = ((segN (bl s) : Nat) : Int) := by
 have h := seg_place s.data.toList
 have e : (⟨(s.data.toList ++ [47]).toArray⟩ : ByteArray) = s ++ slashR := by
  apply ByteArray.ext
  rw [ByteArray.data_append]
  apply Array.toList_inj.1
  simp [slashR]
 rw [e] at h
 exact h
def FindOk (T : Tr) : Prop := ∀ (S : Nat → Prop) (w : World) (v : Value) (s : ByteArray), isNode T → FullT T → (At S T).1 w v → s.size ≤ 4194304 →
  Calls Tryz.prog 122 #[v, .string s] w fun e w' => e = .returned (.int .i64 (findT T s : Nat)) ∧ Drawn w w'
set_option maxRecDepth 20000 in
set_option maxHeartbeats 8000000 in
theorem find_step (T : Tr) (IH : ∀ T', sizeT T' < sizeT T → FindOk T') : FindOk T := by
 intro S w v s hn hf ha hs
 cases T with
 | none => exact hn.elim
 | kid _ _ _ => exact hn.elim
 | node e K p r =>
 obtain ⟨b, TA, tc, KA, kc, ts, ps, pv, rv, rfl, hSb, hbl, c0, c1, c2, c3, c4, rT, rK, aK, aP, aR⟩ := ha
 obtain ⟨L, rfl, rfl, hKL⟩ := chain_of K ts ps aK
 obtain ⟨fL, fK, fP, fR⟩ := hf
 rw [chainLen_chain] at fL
 have hfK := (full_chain L).1 fK
 have hpl := KL.length L ps hKL
 rw [List.length_map] at c0
 rw [hpl] at c1
 have HKL := Lib.hid hKL
 have HrT := Lib.hid rT
 have HrK := Lib.hid rK
 have HfK := Lib.hid hfK
 have HP := Lib.hid aP
 have HR := Lib.hid aR
 have HfP := Lib.hid fP
 have HIH := Lib.hid IH
 have HFT := Lib.hid (findT_node e (chain L) p r s)
 have HSZ := Lib.hid (show sizeT (Tr.node e (chain L) p r) = sizeT (chain L) + sizeT p + sizeT r + 1 from rfl)
 have HHP := Lib.hid (fun t w => HasPrefix_any s t w)
 generalize hTT : Tr.node e (chain L) p r = TT at *
 clear hTT hKL rT rK aK aP aR fK fP fR hfK IH hpl hn
 by_cases hz : s.size = 0 ∧ 0 < e
 ·have he : s.toList.isEmpty = true := by rw [empty_eq]; exact decide_eq_true hz.1
  have hei : (0 : Int) < (e : Int) := by omega
  have HV := Lib.hid (show findT TT s = e by rw [HFT.out, if_pos hz])
  clear hz HFT HHP
  go_enter Tryz.func122, Tryz.ntmps122
  go_wp2
  go_ret
  exact ⟨ret_int (by rw [HV.out]), Drawn.refl _⟩
 have HFT2 := Lib.hid (HFT.out.trans (if_neg hz))
 have hns : ¬ 9223372036854775807 < s.size + 1 := by omega
 clear HFT
 go_enter Tryz.func122, Tryz.ntmps122
 go_upto_region 1 with (fail)
 go_cut [18] (fun x wx => x = .bool false ∧ w = wx)
 case first =>
  by_cases hs0 : s.size = 0
  ·have he : s.toList.isEmpty = true := by rw [empty_eq]; exact decide_eq_true hs0
   have hei : ¬ 0 < e := fun h => hz ⟨hs0, h⟩
   clear hz
   go_wp2_with (fail)
   go_meet
   exact ⟨rfl, rfl⟩
  ·have he : s.toList.isEmpty = false := by rw [empty_eq]; exact decide_eq_false hs0
   clear hz
   go_wp2_with (fail)
   go_meet
   exact ⟨rfl, rfl⟩
 obtain ⟨rfl, rfl⟩ := hcut
 clear hz
 go_wp2
 go_loopw [28] (fun i wr => ∃ k : Nat, k ≤ L.length ∧ i = .int .i64 k ∧ Hid (findT (chain L) s = findT (chain (L.drop k)) s) ∧ Hid (Drawn w wr)) (fun i _ => L.length - (RowKit.intOf i).toNat)
 case atStart => exact ⟨0, by omega, rfl, Lib.hid rfl, Lib.hid (Drawn.refl _)⟩
 case round =>
  obtain ⟨k, hk, rfl, HK, HD⟩ := hrel
  have hh := Hold.drawn (S := S) HD.out
  by_cases hlt : k < L.length
  ·obtain ⟨⟨tx, T'⟩, hx⟩ := some_of_lt hlt
   have hmem := List.mem_of_getElem? hx
   obtain ⟨bt_, offt, rfl, hSt, hbt, ht⟩ := (HrT.out.hold hh) (by rw [List.length_map]; omega)
   have ht0 := ht k (.string tx) (by rw [List.getElem?_map, hx]; rfl)
   obtain ⟨q, hq, hAq⟩ := KL.at_ L ps k (tx, T') HKL.out hx
   have hAq2 := (At.hold hh T').1 _ hAq
   have hpl := KL.length L ps HKL.out
   obtain ⟨bk, offk, rfl, hSk, hbk, hkk⟩ := (HrK.out.hold hh) (by omega)
   have hk0 := hkk k q hq
   obtain ⟨hnT, hfT⟩ := HfK.out _ hmem
   have hsT := size_chain hmem
   have d1 := (hh.cell ⟨b, 1, none⟩ hSb hbl).trans c1
   have hdr := drop_of_some hx
   have hfk : findT (chain (L.drop k)) s = if preB s tx = true ∧ 0 < findT T' (s.extract tx.size s.size) then findT T' (s.extract tx.size s.size) else findT (chain (L.drop (k + 1))) s := by rw [hdr]; exact findT_kid tx T' _ s
   have i1 : (k : Int) < (L.length : Int) := by omega
   have HCP := Lib.hid (fun w => HHP.out tx w)
   clear hdr hx hmem hq hAq hkk hpl ht
   dsimp only at hnT hfT hsT
   cases hpre : preB s tx
   ·rw [hpre] at HCP
    have HK2 := Lib.hid (show findT (chain L) s = findT (chain (L.drop (k + 1))) s by rw [HK.out, hfk, if_neg (fun h => by rw [hpre] at h; exact absurd h.1 (by decide))])
    clear hfk hpre HK hnT hfT hsT hAq2 hk0 d1
    go_wp2_with fail
    refine (HCP.out _).mono ?_
    rintro e' w1 ⟨rfl, rfl⟩
    go_wp2
    go_roundw
    case rel => exact ⟨k + 1, by omega, by go_num, HK2, HD⟩
    case measure => simp [RowKit.intOf]; omega
   ·have hps := preB_size hpre
    have hez := ext_size s (a := tx.size) (b := s.size) hps (Nat.le_refl _)
    have hpi : (tx.size : Int) ≤ (s.size : Int) := by omega
    have HC := Lib.hid (fun (w' : World) (hw : Drawn wr w') => HIH.out T' (by rw [HSZ.out]; omega) S w' q (s.extract tx.size s.size) hnT hfT ((At.hold (Hold.drawn hw) T').1 _ hAq2) (by omega))
    rw [hpre] at HCP hfk
    have HFK := Lib.hid hfk
    generalize hex : s.extract tx.size s.size = sx at *
    clear hfk hpre hnT hfT hsT hAq2 hps hez
    obtain ⟨fr, hfr⟩ : ∃ fr, findT T' sx = fr := ⟨_, rfl⟩
    rw [hfr] at HC HFK
    clear hfr
    go_wp2_with fail
    refine (HCP.out _).mono ?_
    rintro e' w1 ⟨rfl, rfl⟩
    go_wp2_with fail
    go_quiet (first | (go_at_call 122; exact Calls.quiet_of ((HC.out _ (by first | exact Drawn.refl _ | exact (Drawn.refl _).drew _)).mono fun e' w' h => ⟨h.1, h.2⟩)))
    by_cases hf0 : 0 < fr
    ·have hf1 : (0 : Int) < (fr : Int) := by omega
     have HV := Lib.hid (show findT TT s = fr by rw [HFT2.out, HK.out, HFK.out]; simp only [true_and, if_pos hf0])
     clear HFK HK
     go_wp2
     go_ret
     exact ⟨ret_int (by rw [HV.out]), HD.out.drew _⟩
    ·have hf1 : ¬ (0 : Int) < (fr : Int) := by omega
     have HK2 := Lib.hid (show findT (chain L) s = findT (chain (L.drop (k + 1))) s by rw [HK.out, HFK.out, if_neg (fun h => hf0 h.2)])
     clear HFK HK hf0
     go_wp2
     go_roundw
     case rel => exact ⟨k + 1, by omega, by go_num, HK2, Lib.hid (HD.out.drew _)⟩
     case measure => simp [RowKit.intOf]; omega
  ·obtain rfl : k = L.length := by omega
   have hz0 : findT (chain L) s = 0 := by
    rw [HK.out, List.drop_length]
    rfl
   have HFT3 := Lib.hid (HFT2.out.trans (by rw [hz0, if_neg (Nat.lt_irrefl 0)]))
   clear HK hz0 HFT2 HHP HKL HrT HrK HfK c0 c1
   have e2 := (hh.cell ⟨b, 2, none⟩ hSb hbl).trans c2
   have e3 := (hh.cell ⟨b, 3, none⟩ hSb hbl).trans c3
   have HP2 := Lib.hid ((At.hold hh p).1 _ HP.out)
   have HR2 := Lib.hid ((At.hold hh r).1 _ HR.out)
   have hbl2 := Nat.lt_of_lt_of_le hbl hh.1
   clear hh c2 c3 c4 HP HR hbl
   obtain ⟨qp, rfl, hqp⟩ : ∃ qp : Option Addr, pv = .pointer qp ∧ (qp = none ↔ ¬ isNode p) := by
    cases p with
    | none => exact ⟨none, HP2.out, fun _ h => h, fun _ => rfl⟩
    | kid _ _ _ => exact HP2.out.elim
    | node _ _ _ _ =>
     obtain ⟨bp, _, _, _, _, _, _, _, _, e, _⟩ := HP2.out
     exact ⟨_, e, (fun h => by cases h), (fun h => absurd trivial h)⟩
   have hpn : ¬ isNode p → ∀ x, findT p x = 0 := fun h x => by
    cases p with
    | none => rfl
    | kid _ _ _ => exact HP2.out.elim
    | node _ _ _ _ => exact absurd trivial h
   have hsz : sizeT p < sizeT TT := by rw [HSZ.out]; omega
   have HCP := Lib.hid (fun (w' : World) (hw : Drawn wr w') (hn : isNode p) (x : ByteArray) (hx : x.size ≤ 4194304) => HIH.out p hsz S w' (.pointer qp) x hn HfP.out ((At.hold (Hold.drawn hw) p).1 _ HP2.out) hx)
   have HIX := Lib.hid (fun w => IndexByte_any (s ++ ⟨#[47]⟩) 47 w (by decide) (by decide))
   rw [show findB (s ++ ⟨#[47]⟩) 47 = ((segN (bl s) : Nat) : Int) from seg_find s] at HIX
   have hsl : segN (bl s) ≤ s.size := by have := segN_le (bl s); rwa [bl_length] at this
   have hes := ext_size s (a := segN (bl s)) (b := s.size) hsl (Nat.le_refl _)
   have HQ := Lib.hid hqp
   have HPN := Lib.hid hpn
   generalize segN (bl s) = sg at *
   clear hqp hpn hsz HIH HSZ HfP HP2
   go_upto_region 11 with (fail)
   go_cut [56] (fun x wx => ∃ d : Bool, x = .bool d ∧ Hid (d = false ↔ qp = none) ∧ wr = wx)
   case first =>
    cases qp with
    | none =>
     go_wp2_with (fail)
     go_meet
     exact ⟨false, rfl, Lib.hid (by simp), rfl⟩
    | some ap =>
     go_wp2_with (fail)
     go_meet
     exact ⟨true, rfl, Lib.hid (by simp), rfl⟩
   obtain ⟨d, rfl, HDQ, rfl⟩ := hcut
   go_upto_if 56 with (fail)
   go_cut [8] (fun _ wx => Hid (findT TT s = endsT r) ∧ Hid (Drawn wr wx))
   case first =>
    cases d
    ·have hnn : ¬ isNode p := HQ.out.1 (HDQ.out.1 rfl)
     have HV := Lib.hid (show findT TT s = endsT r by rw [HFT3.out, if_neg (fun h => by rw [HPN.out hnn] at h; exact absurd h.2 (Nat.lt_irrefl 0))])
     clear HFT3 HCP HIX hnn
     go_wp2_with (fail)
     go_meet
     exact ⟨HV, Lib.hid (Drawn.refl _)⟩
    ·have hnn : isNode p := by
      by_cases h : isNode p
      ·exact h
      ·have := HDQ.out.2 (HQ.out.2 h); cases this
     by_cases hg : 0 < sg
     ·have hgi : (0 : Int) < (sg : Int) := by omega
      have hgs : (sg : Int) ≤ (s.size : Int) := by omega
      have HC := Lib.hid (fun (w' : World) (hw : Drawn wr w') => HCP.out w' hw hnn (s.extract sg s.size) (by omega))
      have HFT4 := HFT3.out
      generalize hex : s.extract sg s.size = sx at *
      obtain ⟨fr, hfr⟩ : ∃ fr, findT p sx = fr := ⟨_, rfl⟩
      rw [hfr] at HC HFT4
      have HF := Lib.hid HFT4
      clear HFT3 HCP HFT4 hfr hnn hes HQ HPN HDQ
      go_wp2_with (fail)
      refine (HIX.out _).mono ?_
      rintro e' w1 ⟨rfl, rfl⟩
      clear HIX
      go_wp2_with fail
      go_quiet (first | (go_at_call 122; exact Calls.quiet_of ((HC.out _ (by first | exact Drawn.refl _ | exact (Drawn.refl _).drew _)).mono fun e' w' h => ⟨h.1, h.2⟩)))
      by_cases hf0 : 0 < fr
      ·have hf1 : (0 : Int) < (fr : Int) := by omega
       have HV := Lib.hid (show findT TT s = fr by rw [HF.out, if_pos ⟨hg, hf0⟩])
       clear HF HC
       go_wp2
       go_ret
       exact ⟨ret_int (by rw [HV.out]), HD.out.drew _⟩
      ·have hf1 : ¬ (0 : Int) < (fr : Int) := by omega
       have HV := Lib.hid (show findT TT s = endsT r by rw [HF.out, if_neg (fun h => hf0 h.2)])
       clear HF HC hf0
       go_wp2_with (fail)
       go_meet
       exact ⟨HV, Lib.hid ((Drawn.refl _).drew _)⟩
     ·have hgi : ¬ (0 : Int) < (sg : Int) := by omega
      have HV := Lib.hid (show findT TT s = endsT r by rw [HFT3.out, if_neg (fun h => hg h.1)])
      clear HFT3 HCP hg hnn
      go_wp2_with (fail)
      refine (HIX.out _).mono ?_
      rintro e' w1 ⟨rfl, rfl⟩
      clear HIX
      go_wp2_with (fail)
      go_meet
      exact ⟨HV, Lib.hid (Drawn.refl _)⟩
   case rest =>
    obtain ⟨HV, HD2⟩ := hcut
    have hh2 := Hold.drawn (S := S) HD2.out
    have HD3 : Hid (Drawn w wc) := Lib.hid (by
     obtain ⟨q1, h1⟩ := HD.out
     obtain ⟨q2, h2⟩ := HD2.out
     exact ⟨q1 + q2, by rw [h2, h1]; simp⟩)
    have g3 := (hh2.cell ⟨b, 3, none⟩ hSb hbl2).trans e3
    have HR3 := (At.hold hh2 r).1 _ HR2.out
    clear e2 e3 HCP HQ HPN HFT3 HIX HDQ hes hsl HD HD2 hh2 HR2
    cases r with
    | kid _ _ _ => exact HR3.elim
    | none =>
     obtain rfl : rv = .pointer none := HR3
     have HV2 := Lib.hid (show findT TT s = 0 from HV.out)
     clear HV
     go_wp2
     go_ret
     exact ⟨ret_int (by rw [HV2.out]; rfl), HD3.out⟩
    | node er kr pr rr =>
     obtain ⟨br, _, _, _, _, _, _, _, _, rfl, _, hbr, _, _, _, _, f4, _⟩ := HR3
     have HV2 := Lib.hid (show findT TT s = er from HV.out)
     clear HV
     go_wp2
     go_ret
     exact ⟨ret_int (by rw [HV2.out]), HD3.out⟩
theorem find_any : ∀ (n : Nat) (T : Tr), sizeT T < n → FindOk T
 | 0, _, h => absurd h (Nat.not_lt_zero _)
 | n + 1, T, h => find_step T fun T' h' => find_any n T' (by omega)
set_option maxRecDepth 20000 in
set_option maxHeartbeats 1000000 in
theorem catch_idle (p : Addr) (w : World) :
  CallsD Tryz.prog 81 #[.pointer (some p)] .returning w fun e u' w' => e = .returned (.tuple #[]) ∧ u' = .returning ∧ Below w.heap.size w w' := by
 have hta0 : ∀ w, (Instr.typeAssert .nilIface 20 153 true).run Tryz.prog w = .ok (.tuple #[.agg #[.int .i64 0], .bool false]) w := fun _ => by kernel_rfl
 refine callsD_of_wpS Tryz.func81 rfl fun c₀ cs hu => ?_
 apply wpS_seq
 apply wpS_region
 simp [wpOpsS, go_sem, recoverD, hu, Tryz.ntmps81, Exit.thenS, hta0, Array.replicate]
 apply wpS_seq
 apply wpS_region
 simp [wpOpsS, go_sem, Exit.thenS]
 refine wpS_cond (t := false) (by simp [Act.eval]) ?_
 simp only [Bool.false_eq_true, if_false]
 refine wpS_of_wp (wp_skip ?_)
 have hb := (Below.refl w.heap.size w).alloc (Nat.le_refl _) (.cells #[.int .i64 0] 153)
 cases c₀
 simp_all [bodyPostS, results, Tryz.results81]
set_option maxRecDepth 20000 in
set_option maxHeartbeats 1000000 in
theorem catch_twice (p : Addr) (x : Value) (w : World) (hc : w.cell? p = some x) (hz : w.frozen? p = false) :
  CallsD Tryz.prog 81 #[.pointer (some p)] (.panicking [{ v := twiceV, recovered := false }]) w fun e u' w' => e = .returned (.tuple #[]) ∧ u' = .panicking [{ v := twiceV, recovered := true }] ∧ ∃ w1, w' = w1.setCell p (.int .i64 131) ∧ Below w.heap.size w w1 := by
 unfold twiceV
 have hta1 : ∀ w, (Instr.typeAssert (.iface 153 (.agg #[.int .i64 131])) 20 153 true).run Tryz.prog w = .ok (.tuple #[.agg #[.int .i64 131], .bool true]) w := fun _ => by kernel_rfl
 refine callsD_of_wpS Tryz.func81 rfl fun c₀ cs hu => ?_
 apply wpS_seq
 apply wpS_region
 simp [wpOpsS, go_sem, recoverD, hu, Tryz.ntmps81, Exit.thenS, hta1, Array.replicate]
 have hb := (Below.refl w.heap.size w).alloc (Nat.le_refl _) (.cells #[.int .i64 131] 153)
 have hlt : p.block < w.heap.size := World.block_lt_of_cell? w p hc
 have hc1 : (w.alloc (.cells #[.int .i64 131] 153)).cell? p = some x := by rw [World.cell?_alloc_lt _ _ _ hlt]; exact hc
 have hz1 : (w.alloc (.cells #[.int .i64 131] 153)).frozen? p = false := by rw [hb.frozen hlt]; exact hz
 apply wpS_seq
 apply wpS_region
 simp [wpOpsS, go_sem, Exit.thenS]
 refine wpS_cond (t := true) (by simp [Act.eval]) ?_
 simp only [if_true]
 apply wpS_region
 simp [wpOpsS, go_sem, hc1, hz1, bodyPostS, results, Tryz.results81]
 exact ⟨_, rfl, hb⟩
def TreeAt (S : Nat → Prop) (w : World) (q : Nat) (es : List En) : Prop :=
 ∃ A c rp T, ¬ S q ∧ q < w.heap.size ∧ w.cell? ⟨q, 0, none⟩ = some (.slice A es.length c) ∧ w.cell? ⟨q, 1, none⟩ = some (.pointer rp) ∧ w.frozen? ⟨q, 0, none⟩ = false ∧ w.frozen? ⟨q, 1, none⟩ = false ∧
  ((A = none ∧ c = 0) ∨ ∃ b off, A = some ⟨b, off, none⟩) ∧ RowF S w A (flatE es) ∧ (∀ x ∈ es, EOne S w x) ∧ treeP (pcsE es) = T ∧ (At S T).1 w (.pointer rp)
theorem frozen_block {w w' : World} {b : Nat} (h : w'.heap[b]? = w.heap[b]?) (i : Nat) : w'.frozen? ⟨b, i, none⟩ = w.frozen? ⟨b, i, none⟩ := by
 unfold World.frozen?
 simp only [h]
theorem TreeAt.hold {S : Nat → Prop} {w w' : World} {q : Nat} {es : List En} (h : TreeAt S w q es) (hh : Hold S w w') (hq : w'.heap[q]? = w.heap[q]?) : TreeAt S w' q es := by
 obtain ⟨A, c, rp, T, h1, h2, h3, h4, h5, h6, h7, h8, h9, h10, h11⟩ := h
 exact ⟨A, c, rp, T, h1, Nat.lt_of_lt_of_le h2 hh.1, (World.cell?_of_block hq).trans h3, (World.cell?_of_block hq).trans h4, (frozen_block hq 0).trans h5, (frozen_block hq 1).trans h6, h7, h8.hold hh, fun x hx => (h9 x hx).hold hh, h10, (At.hold hh T).1 _ h11⟩
theorem TreeAt.lt {S : Nat → Prop} {w : World} {q : Nat} {es : List En} (h : TreeAt S w q es) : q < w.heap.size := by
 obtain ⟨_, _, _, _, _, h2, _⟩ := h
 exact h2
theorem TreeAt.below {S : Nat → Prop} {w w' : World} {q : Nat} {es : List En} (h : TreeAt S w q es) (hb : Below w.heap.size w w') : TreeAt S w' q es := h.hold (Hold.of_below hb) (hb.block q h.lt)
structure GoodE (es : List En) : Prop where
 sort : SortL (pcsE es)
 pcs : ∀ x ∈ es, splitP x.1 = (x.2.2.1, 0, true)
theorem GoodE.nil : GoodE [] := ⟨List.Pairwise.nil, fun x hx => by cases hx⟩
theorem GoodE.sortE {es : List En} (h : GoodE es) : SortE es := by
 have := h.sort
 unfold SortL pcsE at this
 rw [List.pairwise_map] at this
 exact this
theorem GoodE.wf {es : List En} (h : GoodE es) {x : En} (hx : x ∈ es) : wfP x.2.2.1 ∧ restLast x.2.2.1 ∧ totP x.2.2.1 ≤ x.1.size ∧ x.2.2.1 ≠ [] := by
 have e := h.pcs x hx
 have hw := split_wf (s := x.1) (by rw [e])
 rw [e] at hw
 exact ⟨hw.1, hw.2.1, hw.2.2.1, hw.2.2.2.1⟩
theorem kidsL_nil (B : List Pw → Tr) : ∀ k, kidsL B [] k = []
 | 0 => rfl
 | k + 1 => by
  show kidsL B [] k ++ kidOne B (groupP k []) = []
  rw [kidsL_nil B k]
  rfl
theorem treeP_nil : treeP [] = .node 0 .none .none .none := by
 show Tr.node (endsP []) (chain (kidsL (buildP 0) [] 256)) (edgeT (buildP 0) (edgeP 1 [])) (edgeT (buildP 0) (edgeP 2 [])) = _
 rw [kidsL_nil]
 rfl
set_option maxRecDepth 20000 in
set_option maxHeartbeats 1000000 in
theorem New_any (w : World) : Calls Tryz.prog 33 #[] w fun e w' => e = .returned (.pointer (some ⟨w.heap.size + 1, 0, none⟩)) ∧ TreeAt (fun b => b = w.heap.size) w' (w.heap.size + 1) [] ∧ Below w.heap.size w w' ∧ w'.heap.size = w.heap.size + 2 := by
 have hb1 := (Below.refl w.heap.size w).alloc (Nat.le_refl _) (.cells #[.slice none 0 0, .slice none 0 0, .pointer none, .pointer none, .int .i64 0] 139)
 have hb2 := hb1.alloc hb1.size (.cells #[.slice none 0 0, .pointer (some ⟨w.heap.size, 0, none⟩)] 142)
 go_enter Tryz.func33, Tryz.ntmps33
 go_wp2
 go_ret
 refine ⟨rfl, ⟨none, 0, some ⟨w.heap.size, 0, none⟩, .node 0 .none .none .none, (by omega), by simp, ?_, ?_, by simp, by simp, .inl ⟨rfl, rfl⟩, (fun h => absurd h (Nat.lt_irrefl 0)), (fun x hx => by cases hx), treeP_nil, ?_⟩, hb2, by simp⟩
 ·simp
 ·simp
 ·refine ⟨w.heap.size, none, 0, none, 0, [], [], .pointer none, .pointer none, rfl, rfl, by simp; omega, by simp, by simp, by simp, by simp, by simp, fun h => absurd h (Nat.lt_irrefl 0), fun h => absurd h (Nat.lt_irrefl 0), ⟨rfl, rfl⟩, rfl, rfl⟩
structure Turn (q : Nat) (w w' : World) : Prop where
 os : w'.os = w.os
 tape : w'.tape = w.tape
 output : w'.output = w.output
 size : w.heap.size ≤ w'.heap.size
 block : ∀ k, k < w.heap.size → k ≠ q → w'.heap[k]? = w.heap[k]?
theorem Turn.of_below {q : Nat} {w w' : World} (h : Below w.heap.size w w') : Turn q w w' := ⟨h.os, h.tape, h.output, h.size, fun k hk _ => h.block k hk⟩
theorem Turn.below {q B : Nat} {w w' : World} (h : Turn q w w') (hq : B ≤ q) (hB : B ≤ w.heap.size) : Below B w w' := ⟨h.os, h.tape, h.output, h.size, fun k hk => h.block k (by omega) (by omega)⟩
theorem Turn.hold {q : Nat} {w w' : World} {S : Nat → Prop} (h : Turn q w w') (hq : ¬ S q) : Hold S w w' := ⟨h.size, fun b hS hb => h.block b hb (fun e => hq (by rw [← e]; exact hS))⟩
def insE (es : List En) (x : En) : List En := es.take (cntE es x.2.2.1) ++ x :: es.drop (cntE es x.2.2.1)
theorem cntE_cntL (es : List En) (m : List Pc) : cntE es m = cntL (pcsE es) m := by
 unfold cntE cntL pcsE
 rw [List.countP_map]
 rfl
theorem pcsE_ins (es : List En) (x : En) : pcsE (insE es x) = insL (pcsE es) x.2.2.1 := by
 unfold insE insL pcsE
 rw [List.map_append, List.map_take, List.map_cons, List.map_drop]
 rw [show cntE es x.2.2.1 = cntL (List.map (fun x => x.2.2.1) es) x.2.2.1 from cntE_cntL es x.2.2.1]
theorem insE_mem {es : List En} {x y : En} (h : y ∈ insE es x) : y = x ∨ y ∈ es := by
 rcases List.mem_append.1 h with h | h
 ·exact .inr (List.mem_of_mem_take h)
 ·rcases List.mem_cons.1 h with h | h
  ·exact .inl h
  ·exact .inr (List.mem_of_mem_drop h)
theorem cntE_le (es : List En) (m : List Pc) : cntE es m ≤ es.length := List.countP_le_length
theorem insE_length (es : List En) (x : En) : (insE es x).length = es.length + 1 := by
 have := cntE_le es x.2.2.1
 unfold insE
 rw [List.length_append, List.length_cons, List.length_take, List.length_drop]
 omega
theorem loadP_insL (ls : List (List Pc)) (m : List Pc) : loadP (insL ls m) = loadP ls + (totP m + 1) := by
 unfold insL
 rw [loadP_append, loadP_cons]
 have h := loadP_append (ls.take (cntL ls m)) (ls.drop (cntL ls m))
 rw [List.take_append_drop] at h
 omega
def GivesInsertR (r : Rd) (S : Nat → Prop) (w : World) (q : Nat) (es : List En) (s : ByteArray) (v : (Option Addr × Nat × Nat)) (e : Ending) (w' : World) : Prop :=
 (r.2.2 = false ∧ e = .returned (.int .i64 130) ∧ Below w.heap.size w w') ∨
 (r.2.2 = true ∧ (∃ y ∈ es, ordP y.2.2.1 r.1 = 0) ∧ e = .returned (.int .i64 131) ∧ Below w.heap.size w w') ∨
 (r.2.2 = true ∧ (∀ y ∈ es, ordP y.2.2.1 r.1 ≠ 0) ∧ e = .returned (.int .i64 0) ∧ (∃ loc, TreeAt (fun b => S b ∨ (w.heap.size ≤ b ∧ b < w'.heap.size)) w' q (insE es (s, loc, r.1, v))) ∧ Turn q w w')
def GivesInsert (S : Nat → Prop) (w : World) (q : Nat) (es : List En) (s : ByteArray) (v : (Option Addr × Nat × Nat)) (e : Ending) (w' : World) : Prop := GivesInsertR (splitP s) S w q es s v e w'
set_option maxRecDepth 20000 in
set_option maxHeartbeats 8000000 in
theorem Insert_any (S : Nat → Prop) (w : World) (q : Nat) (es : List En) (s : ByteArray) (v : (Option Addr × Nat × Nat)) (hT : TreeAt S w q es) (hg : GoodE es) (hs : s.size ≤ 4194304) (hld : 3 * (loadP (pcsE es) + (s.size + 1)) ≤ 4194304) :
  Calls Tryz.prog 39 #[.pointer (some ⟨q, 0, none⟩), .string s, .slice v.1 v.2.1 v.2.2] w (GivesInsert S w q es s v) := by
 have hmf : ∀ (fn : Fn) (first cap : Array Value) (w : World), (Instr.makeFunc fn first cap).run Tryz.prog w = .ok (.func fn first cap) w := fun _ _ _ _ => rfl
 have HSP := Lib.hid (fun W => split_any s W hs)
 have hwf := @split_wf s
 obtain ⟨⟨pl, pa, pg⟩, hsp⟩ : ∃ r, r = splitP s := ⟨_, rfl⟩
 unfold GivesInsert
 rw [← hsp] at HSP hwf ⊢
 dsimp only at hwf
 cases pg
 ·have HT := Lib.hid hT
  clear hT hg hld hsp hwf
  go_enter_defers Tryz.func39, Tryz.ntmps39
  go_wp2_with fail
  refine (HSP.out _).mono ?_
  rintro e w1 ⟨A, c, rfl, ho, hb⟩
  dsimp only
  have hb2 : Below w.heap.size w w1 := below_new (by simpa using hb)
  have hcell : w1.cell? ⟨w.heap.size, 0, none⟩ = some (.int .i64 0) := by
   rw [hb.cell (p := ⟨w.heap.size, 0, none⟩) (by simp), World.cell?_alloc_new]
   rfl
  have hfro : w1.frozen? ⟨w.heap.size, 0, none⟩ = false := by
   rw [hb.frozen (p := ⟨w.heap.size, 0, none⟩) (by simp)]
   simp
  have hlt1 : w.heap.size < w1.heap.size := by have := hb.size; simp at this; omega
  have HB := Lib.hid (Below.setCell hb2 (p := ⟨w.heap.size, 0, none⟩) (Nat.le_refl w.heap.size) (.int .i64 130))
  clear ho hb hb2
  go_wp2
  have hres : (w1.setCell ⟨w.heap.size, 0, none⟩ (.int .i64 130)).cell? ⟨w.heap.size, 0, none⟩ = some (.int .i64 130) := World.cell?_setCell_same _ _ _ hcell
  simp [bodyPostD, Leaves, results, Tryz.results39, go_sem, hres]
  exact .inl ⟨rfl, rfl, HB.out⟩
 ·obtain ⟨wf1, wf2, wf3, wf4, wf5, wf6, _⟩ := hwf rfl
  obtain ⟨A, c, rp, T, hSq, hql, q0, q1, hf0, hf1, hA, hrow, heo, hTT, hat⟩ := hT
  have hpl := totP_len pl
  have hlen : es.length ≤ loadP (pcsE es) := by have := loadP_len (pcsE es); unfold pcsE at this ⊢; rwa [List.length_map] at this
  have hx : ∀ x ∈ es, Row w x.2.1.1 (flatP x.2.2.1) ∧ x.2.2.1.length ≤ 4194304 ∧ (∀ p ∈ x.2.2.1, 0 ≤ p.1 ∧ p.1 ≤ 2) ∧ ∀ p ∈ x.2.2.1, p.1 = 0 ∨ p.1 = 1 ∨ p.1 = 2 := fun x hx => by
   have h1 := loadP_mem (ls := pcsE es) (l := x.2.2.1) (List.mem_map_of_mem hx)
   have h2 := totP_len x.2.2.1
   have h3 := (hg.wf hx).1
   exact ⟨(heo x hx).row, by omega, fun p hp => by have := (h3 p hp).1; omega, fun p hp => (h3 p hp).1⟩
  have hkm : ∀ p ∈ pl, 0 ≤ p.1 ∧ p.1 ≤ 2 := fun p hp => by have := (wf1 p hp).1; omega
  have HSE := Lib.hid (fun (W : World) (h : Below w.heap.size w W) (B : Option Addr) (d : Nat) (hm : Row W B (flatP pl)) => SearchE_any A c es B d pl W (hrow.row.below h) (fun x h' => ⟨(hx x h').1.below h, (hx x h').2.1, (hx x h').2.2.1⟩) hm (by omega) (by omega) hkm hg.sortE)
  have HCL := Lib.hid (fun (W : World) (h : Below w.heap.size w W) => CloneE_any A c es W (hrow.row.below h) (by omega) hA)
  have HQ := Lib.hid (fun (W : World) (h : Below w.heap.size w W) => (⟨(h.cell (p := ⟨q, 0, none⟩) hql).trans q0, (h.cell (p := ⟨q, 1, none⟩) hql).trans q1, (h.frozen (p := ⟨q, 0, none⟩) hql).trans hf0, (h.frozen (p := ⟨q, 1, none⟩) hql).trans hf1⟩ : W.cell? ⟨q, 0, none⟩ = some (.slice A es.length c) ∧ W.cell? ⟨q, 1, none⟩ = some (.pointer rp) ∧ W.frozen? ⟨q, 0, none⟩ = false ∧ W.frozen? ⟨q, 1, none⟩ = false))
  have HX := Lib.hid hx
  have HG := Lib.hid hg
  have HWF := Lib.hid wf1
  have HEO := Lib.hid heo
  have HLD := Lib.hid (show 3 * (loadP (pcsE es) + (totP pl + 1)) ≤ 4194304 by omega)
  have hpn : es.length ≤ 4194304 := by omega
  have hcn := cntE_le es pl
  clear hx hg hrow hat heo q0 q1 hf0 hf1 hA wf1 wf2 wf3 wf4 wf5 wf6 hpl hlen hTT hkm hsp hld
  go_enter_defers Tryz.func39, Tryz.ntmps39
  go_wp2_with fail
  refine (HSP.out _).mono ?_
  rintro e w1 ⟨B, d, rfl, ho, hb⟩
  dsimp only at ho ⊢
  have hb2 : Below w.heap.size w w1 := below_new (by simpa using hb)
  have hcell : w1.cell? ⟨w.heap.size, 0, none⟩ = some (.int .i64 0) := by
   rw [hb.cell (p := ⟨w.heap.size, 0, none⟩) (by simp), World.cell?_alloc_new]
   rfl
  have hfro : w1.frozen? ⟨w.heap.size, 0, none⟩ = false := by
   rw [hb.frozen (p := ⟨w.heap.size, 0, none⟩) (by simp)]
   simp
  have hlt1 : w.heap.size < w1.heap.size := by have := hb.size; simp at this; omega
  have hmr := own_row ho
  obtain ⟨q0, q1, hf0, hf1⟩ := HQ.out w1 hb2
  clear hb HSP
  go_wp2_with fail
  refine (HSE.out w1 hb2 B d hmr).mono ?_
  rintro e w2 ⟨⟨fb, rfl⟩, hb3⟩
  have hb4 := hb2.trans (hb3.mono hb2.size)
  clear q0 q1 hf0 hf1
  obtain ⟨q0, q1, hf0, hf1⟩ := HQ.out w2 hb4
  generalize hcnt : cntE es pl = i at *
  go_wp2_with fail
  refine (HCL.out w2 hb4).mono ?_
  rintro e w3 ⟨v3, rfl, hown3, hb5⟩
  dsimp only
  have hb6 := hb4.trans (hb5.mono hb4.size)
  have hIN := InsertE_any v3 es (s, (B, d), pl, v) i w3.heap.size w2.heap.size (w3.alloc (.cells #[.string s, .slice B pl.length d, .slice v.1 v.2.1 v.2.2] 150)) (hown3.alloc _) (heap_alloc_new _ _) (fun e => absurd (own_blt hown3 _ e) (Nat.lt_irrefl _)) hcn hpn (by have := hb5.size; simp; omega)
  have HIN := Lib.hid hIN
  have hb7 := (hb5.alloc hb5.size (.cells #[.string s, .slice B pl.length d, .slice v.1 v.2.1 v.2.2] 150))
  have HCNT := Lib.hid hcnt
  clear q0 q1 hf0 hf1 hIN hown3 hcnt
  go_wp2_with fail
  refine HIN.out.mono ?_
  rintro e w4 ⟨v4, rfl, hown4, hb8⟩
  have hb9 : Below w2.heap.size w2 w4 := hb7.trans hb8
  have hb10 := hb4.trans (hb9.mono hb4.size)
  have hins : es.take i ++ (s, (B, d), pl, v) :: es.drop i = insE es (s, (B, d), pl, v) := by
   unfold insE
   rw [show cntE es (s, (B, d), pl, v).2.2.1 = i from HCNT.out]
  rw [hins, ← insE_length es (s, (B, d), pl, v)] at hown4
  obtain ⟨A4, c4, rfl⟩ := own_slice hown4
  have hoS := own_below (own_below ho hb3) hb9
  have hm4 : Row w4 B (flatP pl) := own_row hoS
  obtain ⟨q0, q1, hf0, hf1⟩ := HQ.out w4 hb10
  have hP := plant_any q A4 c4 (insE es (s, (B, d), pl, v)) w4 (Nat.lt_of_lt_of_le hql hb10.size) _ _ q0 q1 hf0 hf1 (own_row hown4) (fun x hx => by
   rcases insE_mem hx with rfl | hx
   ·exact ⟨hm4, fun p hp => (HWF.out p hp).1⟩
   ·exact ⟨(HX.out x hx).1.below hb10, (HX.out x hx).2.2.2⟩) (by rw [pcsE_ins, loadP_insL]; exact HLD.out)
  have HP := Lib.hid hP
  have hcell4 : w4.cell? ⟨w.heap.size, 0, none⟩ = some (.int .i64 0) := by
   rw [(hb3.trans (hb9.mono hb3.size)).cell (p := ⟨w.heap.size, 0, none⟩) hlt1]
   exact hcell
  have hfro4 : w4.frozen? ⟨w.heap.size, 0, none⟩ = false := by
   rw [(hb3.trans (hb9.mono hb3.size)).frozen (p := ⟨w.heap.size, 0, none⟩) hlt1]
   exact hfro
  have hlt4 : w.heap.size < w4.heap.size := Nat.lt_of_lt_of_le hlt1 (hb3.trans (hb9.mono hb3.size)).size
  have hbase1 : w.heap.size ≤ w1.heap.size := hb2.size
  have hb3s : w.heap.size < w2.heap.size := Nat.lt_of_lt_of_le hlt1 hb3.size
  have HOW := Lib.hid hown4
  have HOS := Lib.hid hoS
  have HIL := Lib.hid (insE_length es (s, (B, d), pl, v))
  clear hins hown4 hoS hm4 hP q0 q1 hf0 hf1 HSE HCL HIN hcell hfro hb7 hb8 hb5 hb6 hmr
  go_wp2_with fail
  refine HP.out.mono ?_
  rintro e w5 (⟨hnd, rfl, w6, q', T4, rfl, hb11, hT4, hat⟩ | ⟨hdup, ⟨u, rfl, hu⟩, hb11⟩)
  ·dsimp only
   have hb12 := hb10.trans (hb11.mono hb10.size)
   have hq6 := Nat.lt_of_lt_of_le hql hb12.size
   obtain ⟨q0, q1, hf0, hf1⟩ := HQ.out w6 hb12
   have n0 : w6.cell? ⟨w.heap.size, 0, none⟩ = some (.int .i64 0) := (hb11.cell (p := ⟨w.heap.size, 0, none⟩) hlt4).trans hcell4
   have n1 : w6.frozen? ⟨w.heap.size, 0, none⟩ = false := (hb11.frozen (p := ⟨w.heap.size, 0, none⟩) hlt4).trans hfro4
   have hne : ∀ i, (⟨q, i, none⟩ : Addr) ≠ ⟨w.heap.size, 0, none⟩ := fun i e => by injection e with e; omega
   obtain ⟨w7, hw7⟩ : ∃ w7, (w6.setCell ⟨q, 0, none⟩ (.slice A4 (insE es (s, (B, d), pl, v)).length c4)).setCell ⟨q, 1, none⟩ (.pointer q') = w7 := ⟨_, rfl⟩
   rw [hw7]
   have m0 : w7.cell? ⟨w.heap.size, 0, none⟩ = some (.int .i64 0) := by
    rw [← hw7, World.cell?_setCell_other _ _ _ _ (hne 1), World.cell?_setCell_other _ _ _ _ (hne 0)]
    exact n0
   have m1 : w7.frozen? ⟨w.heap.size, 0, none⟩ = false := by
    rw [← hw7, World.frozen?_setCell, World.frozen?_setCell]
    exact n1
   have HW7 := Lib.hid hw7
   have HAT := Lib.hid hat
   have HT4 := Lib.hid hT4
   have HND := Lib.hid hnd
   have Q0 := Lib.hid q0
   have Q1 := Lib.hid q1
   clear hw7 hat hT4 hnd q0 q1 hcell4 hfro4 n0 n1 HX HLD HQ hb3 hb4 hb9
   go_wp2
   have r0 : (w7.setCell ⟨w.heap.size, 0, none⟩ (.int .i64 0)).cell? ⟨w.heap.size, 0, none⟩ = some (.int .i64 0) := World.cell?_setCell_same _ _ _ m0
   have hs7 : w7.heap.size = w6.heap.size := by rw [← HW7.out]; simp
   have hlt6 : w.heap.size < w6.heap.size := Nat.lt_of_lt_of_le hlt4 hb11.size
   refine leaves_cons (f := 81) (args := #[.pointer (some ⟨w.heap.size, 0, none⟩)]) (by simp) (by simp [go_sem]) ?_
   refine (catch_idle _ _).mono ?_
   rintro e u' w9 ⟨rfl, rfl, hb13⟩
   have hs9 : w6.heap.size ≤ w9.heap.size := by have := hb13.size; simp at this; omega
   have hres : w9.cell? ⟨w.heap.size, 0, none⟩ = some (.int .i64 0) := (hb13.cell (p := ⟨w.heap.size, 0, none⟩) (by simp; omega)).trans r0
   simp [Leaves, settle, results, Tryz.results39, go_sem, hres]
   have k7 : ∀ k, k < w6.heap.size → k ≠ w.heap.size → w9.heap[k]? = w7.heap[k]? := fun k hk h1 => by
    rw [hb13.block k (by simp; omega)]
    exact Below.heap_setCell _ _ _ _ h1
   have k6 : ∀ k, k < w6.heap.size → k ≠ w.heap.size → k ≠ q → w9.heap[k]? = w6.heap[k]? := fun k hk h1 h2 => by
    rw [k7 k hk h1, ← HW7.out, Below.heap_setCell _ _ _ _ h2, Below.heap_setCell _ _ _ _ h2]
   have k4 : ∀ k, k < w4.heap.size → k ≠ w.heap.size → k ≠ q → w9.heap[k]? = w4.heap[k]? := fun k hk h1 h2 => (k6 k (Nat.lt_of_lt_of_le hk hb11.size) h1 h2).trans (hb11.block k hk)
   have k0 : ∀ k, k < w.heap.size → k ≠ q → w9.heap[k]? = w.heap[k]? := fun k hk h2 => (k4 k (Nat.lt_of_lt_of_le hk hb10.size) (by omega) h2).trans (hb10.block k hk)
   have hsz4 := hb10.size
   have hsz6 := hb11.size
   have hq9 : w9.heap[q]? = w7.heap[q]? := k7 q hq6 (by omega)
   have c0 : w7.cell? ⟨q, 0, none⟩ = some (.slice A4 (insE es (s, (B, d), pl, v)).length c4) := by
    rw [← HW7.out, World.cell?_setCell_other _ _ _ _ (by intro e; injection e with _ e; cases e)]
    exact World.cell?_setCell_same _ _ _ Q0.out
   have c1 : w7.cell? ⟨q, 1, none⟩ = some (.pointer q') := by
    rw [← HW7.out]
    refine World.cell?_setCell_same _ _ _ (u := .pointer rp) ?_
    rw [World.cell?_setCell_other _ _ _ _ (by intro e; injection e with _ e; cases e)]
    exact Q1.out
   have f0 : w7.frozen? ⟨q, 0, none⟩ = false := by rw [← HW7.out, World.frozen?_setCell, World.frozen?_setCell]; exact hf0
   have f1 : w7.frozen? ⟨q, 1, none⟩ = false := by rw [← HW7.out, World.frozen?_setCell, World.frozen?_setCell]; exact hf1
   have hold4 : Hold (fun b => w.heap.size < b) w4 w9 := ⟨by omega, fun k hk hk2 => k4 k hk2 (by omega) (by omega)⟩
   have hold6 : Hold (fun b => w4.heap.size ≤ b) w6 w9 := ⟨hs9, fun k (hk : w4.heap.size ≤ k) hk2 => k6 k hk2 (by omega) (by omega)⟩
   have hold0 : Hold S w w9 := ⟨by omega, fun k hk hk2 => k0 k hk2 (fun e => hSq (by rw [← e]; exact hk))⟩
   have hA4 : (A4 = none ∧ c4 = 0) ∨ ∃ b off, A4 = some ⟨b, off, none⟩ := by
    rcases HOW.out.2 with ⟨e, _⟩ | ⟨g, cap, cur, e, _⟩
    ·injection e with e1 _ e2
     exact .inl ⟨e1, e2⟩
    ·injection e with e1
     exact .inr ⟨g, 0, e1⟩
   have hr4 : RowF (fun b => w.heap.size < b) w4 A4 (flatE (insE es (s, (B, d), pl, v))) := RowF.own HOW.out (fun b hb => by
    have h1 := own_lt HOW.out b hb
    have h2 := hb3s
    have h3 : w2.heap.size ≤ b := h1
    show w.heap.size < b
    omega)
   have hr9 := (hr4.hold hold4).mono (S' := fun b => S b ∨ (w.heap.size ≤ b ∧ b < w9.heap.size)) (fun b (hb : w.heap.size < b) hb2 => .inr ⟨by omega, hb2⟩)
   have hm4 : RowF (fun b => w.heap.size < b) w4 B (flatP pl) := RowF.own HOS.out (fun b hb => by
    have h1 := own_lt HOS.out b hb
    simp at h1
    show w.heap.size < b
    omega)
   have hm9 := (hm4.hold hold4).mono (S' := fun b => S b ∨ (w.heap.size ≤ b ∧ b < w9.heap.size)) (fun b (hb : w.heap.size < b) hb2 => .inr ⟨by omega, hb2⟩)
   have hat9 := (At.mono (S' := fun b => S b ∨ (w.heap.size ≤ b ∧ b < w9.heap.size)) (fun b (hb : w4.heap.size ≤ b) hb2 => .inr ⟨by omega, hb2⟩) T4).1 _ ((At.hold hold6 T4).1 _ HAT.out)
   refine .inr (.inr ⟨rfl, fun y hy h0 => HND.out ?_, rfl, ⟨(B, d), A4, c4, q', T4, ?_, by omega, (World.cell?_of_block hq9).trans c0, (World.cell?_of_block hq9).trans c1, (frozen_block hq9 0).trans f0, (frozen_block hq9 1).trans f1, hA4, hr9, fun x hx => ?_, HT4.out, hat9⟩, ?_⟩)
   ·rw [pcsE_ins]
    exact insL_dup HG.out.sort (List.mem_map_of_mem hy) h0
   ·rintro (h | ⟨h, _⟩)
    ·exact hSq h
    ·omega
   ·rcases insE_mem hx with rfl | hx
    ·exact hm9
    ·exact (EOne.hold (HEO.out x hx) hold0).mono fun b hb _ => .inl hb
   ·exact ⟨by rw [hb13.os]; show w7.os = _; rw [← HW7.out]; exact (hb10.trans (hb11.mono hsz4)).os, by rw [hb13.tape]; show w7.tape = _; rw [← HW7.out]; exact (hb10.trans (hb11.mono hsz4)).tape, by rw [hb13.output]; show w7.output = _; rw [← HW7.out]; exact (hb10.trans (hb11.mono hsz4)).output, by omega, k0⟩
  ·dsimp only
   unfold twiceV at hu
   subst hu
   have m0 : w5.cell? ⟨w.heap.size, 0, none⟩ = some (.int .i64 0) := (hb11.cell (p := ⟨w.heap.size, 0, none⟩) hlt4).trans hcell4
   have m1 : w5.frozen? ⟨w.heap.size, 0, none⟩ = false := (hb11.frozen (p := ⟨w.heap.size, 0, none⟩) hlt4).trans hfro4
   have hb12 := hb10.trans (hb11.mono hb10.size)
   have HDUP := Lib.hid hdup
   clear hdup hcell4 hfro4 HX HLD HQ hb3 hb4 hb9
   go_wp2
   refine leaves_cons (f := 81) (args := #[.pointer (some ⟨w.heap.size, 0, none⟩)]) (by simp) (by simp [go_sem]) ?_
   refine (catch_twice ⟨w.heap.size, 0, none⟩ _ w5 m0 m1).mono ?_
   rintro e u' w9 ⟨rfl, rfl, w8, rfl, hb13⟩
   have r0 : (w8.setCell ⟨w.heap.size, 0, none⟩ (.int .i64 131)).cell? ⟨w.heap.size, 0, none⟩ = some (.int .i64 131) := World.cell?_setCell_same _ _ _ ((hb13.cell (p := ⟨w.heap.size, 0, none⟩) (Nat.lt_of_lt_of_le hlt4 hb11.size)).trans m0)
   have hbl := (hb12.trans (hb13.mono hb12.size)).setCell (p := ⟨w.heap.size, 0, none⟩) (Nat.le_refl _) (.int .i64 131)
   have hex : ∃ y ∈ es, ordP y.2.2.1 pl = 0 := by
    refine Classical.byContradiction fun hno => ?_
    have hd := HDUP.out
    rw [pcsE_ins] at hd
    refine sort_nodup (insL_sort HG.out.sort (m := pl) fun l hl h0 => ?_) hd
    obtain ⟨y, hy, rfl⟩ := List.mem_map.1 hl
    exact hno ⟨y, hy, h0⟩
   simp [Leaves, settle, results, Tryz.results39, go_sem, r0]
   exact .inr (.inl ⟨rfl, hex, rfl, hbl⟩)
end Go.Proofs.YtiohmnhbmmhnhaaGreatDoor
namespace Go.Proofs.YtiohmnhbmmhnhaaGreatDoor
open Go.RowKit Go.Shelf Go.Lib
theorem own_less {w : World} {b b' sz n : Nat} {E : TypeId} {v : Value} {xs : List Value} (h : w.ownsRow b E sz v n xs) (hb : b' ≤ b) : w.ownsRow b' E sz v n xs := by
 refine ⟨h.1, ?_⟩
 rcases h.2 with h | ⟨g, c, cur, e, h1, h2⟩
 ·exact .inl h
 ·exact .inr ⟨g, c, cur, e, Nat.le_trans hb h1, h2⟩
def Drawn1 (w w' : World) : Prop := ∃ q : Nat, w' = w.drewN q
def GivesFit (w : World) (r : Option (List Prm)) (e : Ending) (w' : World) : Prop :=
 ∃ A c, e = .returned (.tuple #[.slice A (fitVal r).1.length c, .bool (fitVal r).2]) ∧ w'.ownsRow w.heap.size 68 3 (.slice A (fitVal r).1.length c) (fitVal r).1.length (flat3 (fitVal r).1) ∧ Below w.heap.size w w'
theorem gives_nofit {w w' : World} {r : Option (List Prm)} (h : r = none) (hb : Below w.heap.size w w') : GivesFit w r (.returned (.tuple #[.slice none 0 0, .bool false])) w' := by
 subst h
 exact ⟨none, 0, rfl, World.ownsRow_nil _ _ _ _, hb⟩
theorem gives_fit {w w' : World} {r : Option (List Prm)} {l : List Prm} {v : Value} (h : r = some l) (ho : w'.ownsRow w.heap.size 68 3 v l.length (flat3 l)) (hb : Below w.heap.size w w') : GivesFit w r (.returned (.tuple #[v, .bool true])) w' := by
 subst h
 obtain ⟨A, c, rfl⟩ := own_slice ho
 exact ⟨A, c, rfl, ho, hb⟩
theorem fitGo_cons {p : Pc} {l : List Pc} {left : ByteArray} {out : List Prm} : fitGo (p :: l) left true out = if p.1 = 2 then some (out ++ [(p.2, left, true)]) else if (p.1 = 0 ∧ (cutW left 47).1 ≠ p.2) ∨ (p.1 = 1 ∧ (cutW left 47).1.size = 0) then none else fitGo l (cutW left 47).2.1 (cutW left 47).2.2 (if p.1 = 1 then out ++ [(p.2, (cutW left 47).1, true)] else out) := by
 conv => lhs; unfold fitGo
 rw [if_neg (by simp)]
set_option maxRecDepth 20000 in
theorem xPath_any (s : ByteArray) (w : World) (hs : s.size ≤ 4194304) (hg : Glob w) :
  Calls Tryz.prog 50 #[.string s] w fun e w' => e = .returned (.bool (isPathB s)) ∧ Below w.heap.size w w' := by
 have HN := Lib.hid (Normal_any s w hs hg)
 unfold normVal at HN
 have hn : ((normR s).2 == 0) = isPathB s := by
  unfold normR
  cases isPathB s <;> rfl
 generalize normR s = r at *
 obtain ⟨t, e0⟩ := r
 dsimp only at hn HN
 have HB := Lib.hid hn
 clear hn
 cases hb : (e0 == 0)
 ·rw [hb] at HB
  go_enter Tryz.func50, Tryz.ntmps50
  go_wp2_with fail
  refine HN.out.mono ?_
  rintro e w1 ⟨rfl, hb1⟩
  go_wp2
  go_ret
  exact ⟨ret_bool (by rw [← HB.out]), hb1⟩
 ·rw [hb] at HB
  go_enter Tryz.func50, Tryz.ntmps50
  go_wp2_with fail
  refine HN.out.mono ?_
  rintro e w1 ⟨rfl, hb1⟩
  go_wp2
  go_ret
  exact ⟨ret_bool (by rw [← HB.out]), hb1⟩
set_option maxRecDepth 20000 in
set_option maxHeartbeats 8000000 in
theorem Fits_any (s path : ByteArray) (w : World) (hs : s.size ≤ 4194304) (hp : path.size ≤ 4194304) (hg : Glob w) :
  Calls Tryz.prog 19 #[.string s, .string path] w (GivesFit w (fitsP s path)) := by
 obtain ⟨i0, hi0, hz0, hz1, hz2⟩ := info_parts info_param
 have HSP := Lib.hid (fun W => split_any s W hs)
 have HPA := Lib.hid (fun W (hg : Glob W) => xPath_any path W hp hg)
 have hwf := @split_wf s
 have hfd : fitsP s path = if (splitP s).2.2 = true ∧ isPathB path = true then fitGo (splitP s).1 (behindS path) true [] else none := rfl
 obtain ⟨⟨pl, pa, pg⟩, hsp⟩ : ∃ r, r = splitP s := ⟨_, rfl⟩
 rw [← hsp] at HSP hwf hfd
 dsimp only at hwf hfd
 have HG := Lib.hid hg
 clear hsp hg
 cases pg
 ·have HF := Lib.hid (show fitsP s path = none by rw [hfd]; exact if_neg (fun h => by cases h.1))
  clear hfd hwf
  go_enter Tryz.func19, Tryz.ntmps19
  go_wp2_with fail
  refine (HSP.out _).mono ?_
  rintro e w1 ⟨A, c, rfl, ho, hb⟩
  dsimp only
  clear ho
  go_wp2
  go_ret2
  exact gives_nofit HF.out hb
 ·cases hpp : isPathB path
  ·have HF := Lib.hid (show fitsP s path = none by rw [hfd]; exact if_neg (fun h => by rw [hpp] at h; cases h.2))
   rw [hpp] at HPA
   clear hfd hwf hpp
   go_enter Tryz.func19, Tryz.ntmps19
   go_wp2_with fail
   refine (HSP.out _).mono ?_
   rintro e w1 ⟨A, c, rfl, ho, hb⟩
   dsimp only
   clear ho
   go_wp2_with fail
   refine (HPA.out _ (HG.out.beyond hb)).mono ?_
   rintro e w2 ⟨rfl, hb2⟩
   have hb3 := hb.trans (hb2.mono hb.size)
   go_wp2
   go_ret2
   exact gives_nofit HF.out hb3
  ·obtain ⟨wf1, wf2, wf3, wf4, _⟩ := hwf rfl
   have HF := Lib.hid (show fitsP s path = fitGo pl (behindS path) true [] by rw [hfd, if_pos ⟨rfl, hpp⟩])
   rw [hpp] at HPA
   have hpz : 0 < path.size := by
    unfold isPathB at hpp
    simp at hpp
    exact hpp.1
   have hex : path.extract 1 path.size = behindS path := rfl
   have hez := ext_size path (a := 1) (b := path.size) (by omega) (Nat.le_refl _)
   rw [hex] at hez
   have hpl := totP_len pl
   have hpn : pl.length ≤ 4194304 := by omega
   have hpi : (1 : Int) ≤ (path.size : Int) := by omega
   generalize behindS path = left0 at *
   have hlz : left0.size ≤ 4194304 := by omega
   have HWF := Lib.hid wf1
   clear hfd hwf hpp wf1 wf2 wf3 hpl hez
   go_enter Tryz.func19, Tryz.ntmps19
   go_wp2_with fail
   refine (HSP.out _).mono ?_
   rintro e w1 ⟨A, c, rfl, ho, hb⟩
   dsimp only at ho ⊢
   go_wp2_with fail
   refine (HPA.out _ (HG.out.beyond hb)).mono ?_
   rintro e w2 ⟨rfl, hb2⟩
   have hb3 := hb.trans (hb2.mono hb.size)
   have hrow := own_row (own_below ho hb2)
   have HRW := Lib.hid hrow
   clear ho hb hb2 hrow HPA HSP
   go_wp2
   clear hpi
   go_loopw [9, 10, 11, 32] (fun v lv mv i wr => ∃ (k : Nat) (lf : ByteArray) (m : Bool) (out : List Prm), k ≤ pl.length ∧ i = .int .i64 k ∧ lv = .string lf ∧ mv = .bool m ∧ lf.size ≤ 4194304 ∧ out.length ≤ k ∧ Hid (fitGo (pl.drop k) lf m out = fitsP s path) ∧ wr.ownsRow w2.heap.size 68 3 v out.length (flat3 out) ∧ Below w2.heap.size w2 wr) (fun _ _ _ i _ => pl.length - (RowKit.intOf i).toNat)
   case atStart => exact ⟨0, left0, true, [], by omega, rfl, rfl, rfl, hlz, Nat.le_refl _, Lib.hid HF.out.symm, World.ownsRow_nil _ _ _ _, Below.refl _ _⟩
   case round =>
    clear HF
    obtain ⟨k, lf, m, out, hk, rfl, rfl, rfl, hlf, hol, HFT, hown, hbr⟩ := hrel
    obtain ⟨OA, Oc, rfl⟩ := own_slice hown
    have hbw := hb3.trans (hbr.mono hb3.size)
    by_cases hlt : k < pl.length
    ·obtain ⟨⟨x, y⟩, hxy⟩ := some_of_lt hlt
     have hmem := List.mem_of_getElem? hxy
     have hk3 := (HWF.out _ hmem).1
     obtain ⟨b, off, rfl, hb, f0, f1⟩ := (HRW.out.below hbr).pc hxy
     have hft := HFT.out
     rw [drop_of_some hxy] at hft
     have hown1 := hown.alloc (.cells #[.int .i64 x, .string y] 109)
     have hb1 := hbw.alloc hbw.size (.cells #[.int .i64 x, .string y] 109)
     have hbr1 := hbr.alloc hbr.size (.cells #[.int .i64 x, .string y] 109)
     cases m
     ·have HR := Lib.hid (show fitsP s path = none by rw [← hft]; rfl)
      clear hft HFT hxy hmem hk3
      go_wp2
      go_ret2
      exact gives_nofit HR.out hb1
     ·rw [fitGo_cons] at hft
      dsimp only at hft hk3
      by_cases hx2 : x = 2
      ·subst hx2
       rw [if_pos rfl] at hft
       have HR := Lib.hid hft.symm
       clear hft HFT hxy hmem hk3
       go_wp2_with (at_builtin; refine wpList_append_any _ rfl (.tmp 41) (.tmp 46) 45 rfl w2.heap.size 68 i0 (.agg #[.string ⟨#[]⟩, .string ⟨#[]⟩, .bool false]) 3 40 Tryz.underlying45 hi0 hz0 hz1 hz2 rfl (by decide) _ _ _ rfl (hown1.alloc _) _ (some ⟨wr.heap.size + 1, 0, none⟩) 1 1 [.string y, .string lf, .bool true] rfl (reads_of_row (row_newc (wr.alloc (.cells #[.int .i64 2, .string y] 109)) _ 68 (by simp)) rfl (by decide)) (by intro u hu; simp at hu; rcases hu with rfl | rfl | rfl <;> rfl) (by unfold maxLen; omega) (by omega) (by have := hbr.size; simp; omega) ?_; intro va wv hownv hgv altv)
       have hbv := (hb1.alloc hb1.size (.cells #[.string y, .string lf, .bool true] 68)).grown hgv (by have := hb1.size; simp; simp at this; omega) (fun g hg => Nat.le_trans hb3.size (own_lt hown1 g hg))
       have hov : wv.ownsRow w2.heap.size 68 3 va (out ++ [((y, lf, true) : Prm)]).length (flat3 (out ++ [((y, lf, true) : Prm)])) := by rw [flat3_append, List.length_append]; exact hownv
       clear hownv hgv altv
       go_wp2
       go_ret2
       exact gives_fit HR.out (own_less hov hb3.size) hbv
      ·rw [if_neg hx2] at hft
       have HCT := Lib.hid (fun (W : World) (h : Below w.heap.size w W) => Cut_any lf 47 W hlf (HG.out.beyond h))
       rw [show ((47 : UInt8).toNat : Int) = 47 from rfl] at HCT
       have hcz := cutW_size lf 47
       obtain ⟨⟨ca, cb, cm⟩, hct⟩ : ∃ r, r = cutW lf 47 := ⟨_, rfl⟩
       rw [← hct] at hft HCT hcz
       unfold cutVal at HCT
       dsimp only at hft HCT hcz
       obtain ⟨hz1', hz2', _⟩ := hcz
       have hem : ca.toList.isEmpty = decide (ca.size = 0) := empty_eq ca
       clear hct hxy hmem
       have hbt : ∀ (W : World), Drawn1 (wr.alloc (.cells #[.int .i64 x, .string y] 109)) W → Below w.heap.size w W ∧ Below w2.heap.size w2 W ∧ W.ownsRow w2.heap.size 68 3 (.slice OA out.length Oc) out.length (flat3 out) ∧ W.cell? ⟨wr.heap.size, 0, none⟩ = some (.int .i64 x) ∧ W.cell? ⟨wr.heap.size, 1, none⟩ = some (.string y) := fun W ⟨q, hq⟩ => by
        have hd : Below (wr.alloc (.cells #[.int .i64 x, .string y] 109)).heap.size (wr.alloc (.cells #[.int .i64 x, .string y] 109)) W := by rw [hq]; exact below_drewN (Below.refl _ _) q
        exact ⟨hb1.trans (hd.mono hb1.size), hbr1.trans (hd.mono hbr1.size), own_below hown1 hd, by rw [hq]; simp, by rw [hq]; simp⟩
       have HBT := Lib.hid hbt
       clear hbt
       have hkx : x = 0 ∨ x = 1 := by omega
       rcases hkx with rfl | rfl
       ·by_cases hay : ca = y
        ·have hq : (ca.toList == y.toList) = true := by rw [eq_str]; exact decide_eq_true hay
         rw [if_neg (by rintro (⟨_, h⟩ | ⟨h, _⟩); exact h hay; omega), if_neg (by decide)] at hft
         have HR := Lib.hid hft
         clear hft HFT hay
         go_wp2_with fail
         refine (HCT.out _ hb1).mono ?_
         rintro e w4 ⟨rfl, hd4⟩
         obtain ⟨hb5, hbr5, hown5, e0, e1⟩ := HBT.out w4 hd4
         clear HBT hd4 hown1 hb1 hbr1
         go_wp2
         go_roundw
         case rel => exact ⟨k + 1, cb, cm, out, by omega, by go_num, rfl, rfl, by omega, by omega, HR, hown5, hbr5⟩
         case measure => simp [RowKit.intOf]; omega
        ·have hq : (ca.toList == y.toList) = false := by rw [eq_str]; exact decide_eq_false hay
         rw [if_pos (.inl ⟨rfl, hay⟩)] at hft
         have HR := Lib.hid hft.symm
         clear hft HFT hay
         go_wp2_with fail
         refine (HCT.out _ hb1).mono ?_
         rintro e w4 ⟨rfl, hd4⟩
         obtain ⟨hb5, hbr5, hown5, e0, e1⟩ := HBT.out w4 hd4
         clear HBT hd4 hown1 hb1 hbr1
         go_wp2
         go_ret2
         exact gives_nofit HR.out hb5
       ·by_cases hcz : ca.size = 0
        ·have hq : ca.toList.isEmpty = true := by rw [empty_eq]; exact decide_eq_true hcz
         rw [if_pos (.inr ⟨rfl, hcz⟩)] at hft
         have HR := Lib.hid hft.symm
         clear hft HFT hcz hem
         go_wp2_with fail
         refine (HCT.out _ hb1).mono ?_
         rintro e w4 ⟨rfl, hd4⟩
         obtain ⟨hb5, hbr5, hown5, e0, e1⟩ := HBT.out w4 hd4
         clear HBT hd4 hown1 hb1 hbr1
         go_wp2
         go_ret2
         exact gives_nofit HR.out hb5
        ·have hq : ca.toList.isEmpty = false := by rw [empty_eq]; exact decide_eq_false hcz
         rw [if_neg (by rintro (⟨h, _⟩ | ⟨_, h⟩); omega; exact hcz h), if_pos rfl] at hft
         have HR := Lib.hid hft
         clear hft HFT hcz hem
         go_wp2_with fail
         refine (HCT.out _ hb1).mono ?_
         rintro e w4 ⟨rfl, hd4⟩
         obtain ⟨hb5, hbr5, hown5, e0, e1⟩ := HBT.out w4 hd4
         clear HBT hd4 hown1 hb1 hbr1
         go_wp2_with (at_builtin; refine wpList_append_any _ rfl (.tmp 75) (.tmp 80) 45 rfl w2.heap.size 68 i0 (.agg #[.string ⟨#[]⟩, .string ⟨#[]⟩, .bool false]) 3 40 Tryz.underlying45 hi0 hz0 hz1 hz2 rfl (by decide) _ _ _ rfl (hown5.alloc _) _ (some ⟨w4.heap.size, 0, none⟩) 1 1 [.string y, .string ca, .bool true] rfl (reads_of_row (row_newc w4 _ 68 (by simp)) rfl (by decide)) (by intro u hu; simp at hu; rcases hu with rfl | rfl | rfl <;> rfl) (by unfold maxLen; omega) (by omega) (by have := hbr5.size; simp; omega) ?_; intro va wv hownv hgv altv)
         have hbv := (hb5.alloc hb5.size (.cells #[.string y, .string ca, .bool true] 68)).grown hgv (by have := hb5.size; simp; omega) (fun g hg => Nat.le_trans hb3.size (own_lt hown5 g hg))
         have hbrv := (hbr5.alloc hbr5.size (.cells #[.string y, .string ca, .bool true] 68)).grown hgv (by have := hbr5.size; simp; omega) (own_lt hown5)
         have hov : wv.ownsRow w2.heap.size 68 3 va (out ++ [((y, ca, true) : Prm)]).length (flat3 (out ++ [((y, ca, true) : Prm)])) := by rw [flat3_append, List.length_append]; exact hownv
         clear hownv hgv altv
         go_wp2
         go_roundw
         case rel => exact ⟨k + 1, cb, cm, _, by omega, by go_num, rfl, rfl, by omega, by rw [List.length_append]; simp; omega, HR, hov, hbrv⟩
         case measure => simp [RowKit.intOf]; omega
    ·obtain rfl : k = pl.length := by omega
     have hft := HFT.out
     rw [List.drop_length] at hft
     cases m
     ·have HR := Lib.hid (show fitsP s path = some out from hft.symm)
      clear hft HFT
      go_wp2
      go_ret2
      exact gives_fit HR.out (own_less hown hb3.size) hbw
     ·have HR := Lib.hid (show fitsP s path = none from hft.symm)
      clear hft HFT
      go_wp2
      go_ret2
      exact gives_nofit HR.out hbw
theorem results_tmp4 {fn : Func} {t u v x : Tmp} (h : fn.results = #[.tmp t, .tmp u, .tmp v, .tmp x]) (tmps : Array Value) (P : Program) (w : World) :
  (results fn tmps).run P w = .ok (.tuple #[tmps.getD t undef, tmps.getD u undef, tmps.getD v undef, tmps.getD x undef]) w := by
 simp [results, h]
def findE (es : List En) (path : ByteArray) : Option Nat := if isPathB path = true then es.findIdx? (fun x => fitsS (symPat x.2.2.1) (bl (behindS path))) else none
theorem findT_es {es : List En} (hg : GoodE es) (path : ByteArray) (hp : isPathB path = true) : findT (treeP (pcsE es)) (behindS path) = match findE es path with
  | some i => i + 1
  | none => 0 := by
 unfold findE
 rw [if_pos hp]
 have hw : ∀ l ∈ pcsE es, wfP l ∧ l ≠ [] := fun l hl => by
  obtain ⟨x, hx, rfl⟩ := List.mem_map.1 hl
  exact ⟨(hg.wf hx).1, (hg.wf hx).2.2.2⟩
 have h1 : findT (treeP (pcsE es)) (behindS path) = best (waysP (pcsE es)) (bl (behindS path)) :=
  find_build (meas (waysP (pcsE es)) + 1) (waysP (pcsE es)) (behindS path) (Nat.lt_succ_self _) (ways_wf fun l hl p hp => ((hw l hl).1 p hp).1) (ways_sort hg.sort hw)
 rw [h1, best_ways (fun l hl => (hw l hl).1)]
 have e : (pcsE es).findIdx? (fun l => fitsS (symPat l) (bl (behindS path))) = es.findIdx? (fun x => fitsS (symPat x.2.2.1) (bl (behindS path))) := by
  unfold pcsE
  rw [List.findIdx?_map]
  rfl
 rw [e]
 cases es.findIdx? (fun x => fitsS (symPat x.2.2.1) (bl (behindS path))) <;> rfl
theorem treeP_full {es : List En} (hg : GoodE es) : isNode (treeP (pcsE es)) ∧ FullT (treeP (pcsE es)) :=
 full_build _ _ (Nat.lt_succ_self _) (ways_wf fun l hl => by
  obtain ⟨x, hx, rfl⟩ := List.mem_map.1 hl
  exact fun p hp => ((hg.wf hx).1 p hp).1)
def GivesFind (w : World) (es : List En) (path : ByteArray) (o : Option Nat) (e : Ending) (w' : World) : Prop :=
 (o = none ∧ e = .returned (.tuple #[.slice none 0 0, .string ⟨#[]⟩, .slice none 0 0, .bool false]) ∧ Below w.heap.size w w') ∨
 (∃ i x, o = some i ∧ es[i]? = some x ∧ (∃ A c, e = .returned (.tuple #[.slice x.2.2.2.1 x.2.2.2.2.1 x.2.2.2.2.2, .string x.1, .slice A (fitVal (fitsP x.1 path)).1.length c, .bool true]) ∧ w'.ownsRow w.heap.size 68 3 (.slice A (fitVal (fitsP x.1 path)).1.length c) (fitVal (fitsP x.1 path)).1.length (flat3 (fitVal (fitsP x.1 path)).1)) ∧ Below w.heap.size w w')
set_option maxRecDepth 20000 in
set_option maxHeartbeats 8000000 in
theorem Find_any (S : Nat → Prop) (w : World) (q : Nat) (es : List En) (path : ByteArray) (hT : TreeAt S w q es) (hg : GoodE es) (hp : path.size ≤ 4194304) (hgl : Glob w) (hes : ∀ x ∈ es, x.1.size ≤ 4194304) (hel : es.length ≤ 4194304) :
  Calls Tryz.prog 90 #[.pointer (some ⟨q, 0, none⟩), .string path] w (GivesFind w es path (findE es path)) := by
 have HPA := Lib.hid (fun W (hg : Glob W) => xPath_any path W hp hg)
 have HGL := Lib.hid hgl
 have hfe := fun (h : isPathB path = true) => findT_es hg path h
 have hno : isPathB path = false → findE es path = none := fun h => by unfold findE; rw [if_neg (by rw [h]; simp)]
 obtain ⟨hnd, hfull⟩ := treeP_full hg
 obtain ⟨A, c, rp, T, hSq, hql, q0, q1, hf0, hf1, hA, hrow, heo, hTT, hat⟩ := hT
 rw [hTT] at hfe hnd hfull
 obtain ⟨o, ho⟩ : ∃ o, findE es path = o := ⟨_, rfl⟩
 have hlt : ∀ i, o = some i → i < es.length := fun i h => by
  rw [h] at ho
  unfold findE at ho
  split at ho
  ·exact (List.findIdx?_eq_some_iff_getElem.1 ho).1
  ·cases ho
 rw [ho] at hfe hno ⊢
 clear hTT ho hgl
 cases hpp : isPathB path
 ·have HN := Lib.hid (hno hpp)
  rw [hpp] at HPA
  clear hfe hno hlt hpp hnd hfull hat
  go_enter Tryz.func90, Tryz.ntmps90
  go_wp2_with fail
  refine (HPA.out _ HGL.out).mono ?_
  rintro e w1 ⟨rfl, hb⟩
  go_wp2
  refine bodyPost_ret (results_tmp4 rfl _ _ _) rfl ?_
  exact .inl ⟨HN.out, rfl, hb⟩
 ·have HFE := Lib.hid (hfe hpp)
  rw [hpp] at HPA
  have hpz : 0 < path.size := by
   unfold isPathB at hpp
   simp at hpp
   exact hpp.1
  have hpi : (1 : Int) ≤ (path.size : Int) := by omega
  have hex : path.extract 1 path.size = behindS path := rfl
  have hez := ext_size path (a := 1) (b := path.size) (by omega) (Nat.le_refl _)
  rw [hex] at hez
  have HF := Lib.hid (fun (W : World) (hb : Below w.heap.size w W) => find_any (sizeT T + 1) T (Nat.lt_succ_self _) S W (.pointer rp) (behindS path) hnd hfull ((At.hold (Hold.of_below hb) T).1 _ hat) (by omega))
  have HQ := Lib.hid (fun (W : World) (h : Below w.heap.size w W) => (⟨(h.cell (p := ⟨q, 0, none⟩) hql).trans q0, (h.cell (p := ⟨q, 1, none⟩) hql).trans q1⟩ : W.cell? ⟨q, 0, none⟩ = some (.slice A es.length c) ∧ W.cell? ⟨q, 1, none⟩ = some (.pointer rp)))
  have HRW := Lib.hid hrow
  have HES := Lib.hid hes
  have HLT := Lib.hid hlt
  obtain ⟨fr, hfr⟩ : ∃ fr, findT T (behindS path) = fr := ⟨_, rfl⟩
  rw [hfr] at HF HFE
  generalize behindS path = left at *
  clear hfe hno hlt hpp hnd hfull hat hez hfr q0 q1 hf0 hf1 hA hrow heo hes hg
  go_enter Tryz.func90, Tryz.ntmps90
  go_wp2_with fail
  refine (HPA.out _ HGL.out).mono ?_
  rintro e w1 ⟨rfl, hb⟩
  obtain ⟨q0, q1⟩ := HQ.out w1 hb
  have HC := Lib.hid (fun (W : World) (h : Drawn w1 W) => HF.out W (hb.trans (h.below.mono hb.size)))
  clear HF HPA
  go_wp2_with fail
  go_quiet (first | (go_at_call 122; exact Calls.quiet_of ((HC.out _ (by first | exact Drawn.refl _ | exact (Drawn.refl _).drew _)).mono fun e' w' h => ⟨h.1, h.2⟩)))
  have hb2 := below_drewN hb nq
  generalize w1.drewN nq = w2 at *
  cases o with
  | none =>
   have hz : fr = 0 := HFE.out
   subst hz
   clear HC HFE q0 q1 HQ
   go_wp2
   refine bodyPost_ret (results_tmp4 rfl _ _ _) rfl ?_
   exact .inl ⟨rfl, rfl, hb2⟩
  | some i =>
   have hz : fr = i + 1 := HFE.out
   have hil := HLT.out i rfl
   obtain ⟨x, hx⟩ := some_of_lt hil
   obtain ⟨b, off, rfl, hbl, f0, f1, f2⟩ := Row.en (HRW.out.row.below hb2) hx
   obtain ⟨g0, g1⟩ := HQ.out w2 hb2
   have HX := Lib.hid hx
   have hxz := HES.out x (List.mem_of_getElem? hx)
   have HFT := Lib.hid (fun (W : World) (h : Below w.heap.size w W) => Fits_any x.1 path W hxz hp (HGL.out.beyond h))
   have hfi : ((fr : Nat) : Int) - 1 = (i : Int) := by omega
   have hf0 : ¬ fr = 0 := by omega
   have hil2 : (i : Int) < (es.length : Int) := by omega
   have hfq : (((fr : Nat) : Int) == 0) = false := by simp; omega
   obtain ⟨p, ⟨XA, xc⟩, xl, xv⟩ := x
   dsimp only at f0 f1 f2 HFT
   have hb3 := hb2.alloc hb2.size (.cells #[.string p, .slice XA xl.length xc, .slice xv.1 xv.2.1 xv.2.2] 150)
   clear HC HFE q0 q1 HQ hx hil hxz hz
   go_wp2_with fail
   refine (HFT.out _ hb3).mono ?_
   rintro e w3 ⟨FA, fc, rfl, hof, hb4⟩
   have hb5 := hb3.trans (hb4.mono hb3.size)
   have hof2 := own_less hof hb3.size
   have e0 : w3.cell? ⟨w2.heap.size, 0, none⟩ = some (.string p) := by rw [hb4.cell (p := ⟨w2.heap.size, 0, none⟩) (by simp), World.cell?_alloc_new]; rfl
   have e2 : w3.cell? ⟨w2.heap.size, 2, none⟩ = some (.slice xv.1 xv.2.1 xv.2.2) := by rw [hb4.cell (p := ⟨w2.heap.size, 2, none⟩) (by simp), World.cell?_alloc_new]; rfl
   have HOF := Lib.hid hof2
   clear hof hof2 hb4 hb3 f0 f1 f2 HFT g0 g1
   generalize hlz : (fitVal (fitsP p path)).1 = fl at *
   go_wp2_with fail
   go_quiet (fail)
   go_wp2
   refine bodyPost_ret (results_tmp4 rfl _ _ _) rfl ?_
   subst hlz
   exact .inr ⟨i, _, rfl, HX.out, ⟨FA, fc, rfl, own_below HOF.out (below_drewN (Below.refl _ _) nq)⟩, below_drewN hb5 nq⟩
end Go.Proofs.YtiohmnhbmmhnhaaGreatDoor
