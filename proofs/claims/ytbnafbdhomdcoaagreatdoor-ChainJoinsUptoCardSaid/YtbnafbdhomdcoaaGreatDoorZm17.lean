/-
  CjY, CjDa, TgW, without what the claim does not reach.
-/
import Derived.Test.YtbnafbdhomdcoaaGreatDoorZm16
import Derived.Test.YtbnafbdhomdcoaaGreatDoorZm8
import Derived.Test.YtbnafbdhomdcoaaGreatDoorZm9
import Derived.Test.YtbnafbdhomdcoaaGreatDoorZm10
namespace Go.Proofs.YtbnafbdhomdcoaaGreatDoor
open Go.RowKit Go.Shelf Go.Lib
def put4 (w : World) (b : Nat) (v0 v1 v2 v3 : Value) : World := (((w.setCell ⟨b, 0, none⟩ v0).setCell ⟨b, 1, none⟩ v1).setCell ⟨b, 2, none⟩ v2).setCell ⟨b, 3, none⟩ v3
theorem put4_keep {E : Nat → Prop} (w : World) {b : Nat} (hb : E b) (v0 v1 v2 v3 : Value) : Keep E w (put4 w b v0 v1 v2 v3) := by
 have h : ∀ (w : World) (j : Nat) (v : Value), Keep E w (w.setCell ⟨b, j, none⟩ v) := fun w j v =>
  ⟨rfl, rfl, rfl, by simp, fun k _ hn => Below.heap_setCell _ _ _ _ (fun e => hn (by subst e; exact hb))⟩
 exact (((h w 0 v0).trans (h _ 1 v1)).trans (h _ 2 v2)).trans (h _ 3 v3)
def mapT (q : Rq) (F : Rs → Rs) (T : Ans) : World → Rs → Option Addr → Nat → World → Prop := fun w x A c w' =>
 ∃ w1 y A1 c1 w2, Below w.heap.size w w1 ∧ T q w1 y A1 c1 w2 ∧ x = F y ∧ Keep (Btw w w1) w2 w' ∧ (OwnF w w' x A c ∨ (x = y ∧ A = A1 ∧ c = c1))
theorem doT_inl {m : Mid} {T : Ans} {r q : Rq} {w w' : World} {x : Rs} {A : Option Addr} {c : Nat} (h : aheadP m r = .inl q) (hx : mapT q (behindP m r) T w x A c w') : doT m T r w x A c w' := by
 unfold doT
 rw [h]
 exact hx
theorem doT_inr {m : Mid} {T : Ans} {r : Rq} {w w' : World} {x : Rs} {A : Option Addr} {c : Nat} (h : aheadP m r = .inr x) (ho : OwnF w w' x A c) (hb : Below w.heap.size w w') : doT m T r w x A c w' := by
 unfold doT
 rw [h]
 exact ⟨rfl, ho, hb⟩
theorem GivesX.imp {D : Nat → Prop} {n0 N M : Nat} {T T' : World → Rs → Option Addr → Nat → World → Prop} {w : World} {e : Ending} {w' : World} (h : GivesX D n0 N T w e w') (hN : N ≤ M) (hT : ∀ x A c, T w x A c w' → T' w x A c w') : GivesX D n0 M T' w e w' := by
 obtain ⟨x, A, c, h1, h2, h3, h4, h5⟩ := h
 exact ⟨x, A, c, h1, h2, h3.more hN, hT _ _ _ h4, h5⟩
section
variable {D : Nat → Prop} {n0 N M b c1 c : Nat} {T : Ans} {q : Rq} {F : Rs → Rs} {w W w2 wz : World} {x y : Rs} {A A1 : Option Addr}
theorem fin_pass2 (hn : n0 ≤ w.heap.size) (h0 : Below w.heap.size w W) (hb1 : w.heap.size ≤ b) (hb2 : b < W.heap.size) (hr : RowD (Out D n0 W) w2 A1 (flat y.fields)) (hf : FitS N y) (hN : N ≤ M) (hT : T q W y A1 c1 w2) (hk : Keep D W w2) (hz : Keep (Btw w W) w2 wz) (hF : F y = y) (v0 v1 v2 v3 : Value) :
  GivesX D n0 M (mapT q F T) w (.returned (rsV y A1 c1)) (put4 wz b v0 v1 v2 v3) := by
 have hB : Keep (Btw w W) w2 (put4 wz b v0 v1 v2 v3) := hz.trans (put4_keep wz ⟨hb1, hb2⟩ v0 v1 v2 v3)
 refine ⟨y, A1, c1, rfl, hr.back hn h0.size hB, hf.more hN, ⟨W, y, A1, c1, w2, h0, hT, hF.symm, hB, .inr ⟨rfl, rfl, rfl⟩⟩, ?_⟩
 refine ⟨hB.os.trans (hk.os.trans h0.os), hB.tape.trans (hk.tape.trans h0.tape), hB.output.trans (hk.output.trans h0.output), Nat.le_trans h0.size (Nat.le_trans hk.size hB.size), fun k hk1 hn1 => ?_⟩
 have h3 : k < W.heap.size := Nat.lt_of_lt_of_le hk1 h0.size
 rw [hB.block k (Nat.lt_of_lt_of_le h3 hk.size) (fun hd => by have := hd.1; omega), hk.block k h3 hn1, h0.block k hk1]
theorem fin_pass (hn : n0 ≤ w.heap.size) (h0 : Below w.heap.size w W) (hb1 : w.heap.size ≤ b) (hb2 : b < W.heap.size) (hr : RowD (Out D n0 W) w2 A1 (flat y.fields)) (hf : FitS N y) (hN : N ≤ M) (hT : T q W y A1 c1 w2) (hk : Keep D W w2) (hF : F y = y) (v0 v1 v2 v3 : Value) :
  GivesX D n0 M (mapT q F T) w (.returned (rsV y A1 c1)) (put4 w2 b v0 v1 v2 v3) := fin_pass2 hn h0 hb1 hb2 hr hf hN hT hk (Keep.refl _ _) hF v0 v1 v2 v3
theorem fin_own (hl : ∀ k, D k → k < w.heap.size) (h0 : Below w.heap.size w W) (hb1 : w.heap.size ≤ b) (hb2 : b < W.heap.size) (hT : T q W y A1 c1 w2) (hk : Keep D W w2) (hz : Keep (Btw w W) w2 wz) (ho : wz.ownsRow W.heap.size 59 2 (.slice A x.fields.length c) x.fields.length (flat x.fields)) (hx : x = F y) (hf : FitS M x) (v0 v1 v2 v3 : Value) :
  GivesX D n0 M (mapT q F T) w (.returned (rsV x A c)) (put4 wz b v0 v1 v2 v3) := by
 have hB : Keep (Btw w W) wz (put4 wz b v0 v1 v2 v3) := put4_keep wz ⟨hb1, hb2⟩ v0 v1 v2 v3
 have hB2 := hz.trans hB
 have ho2 : (put4 wz b v0 v1 v2 v3).ownsRow W.heap.size 59 2 (.slice A x.fields.length c) x.fields.length (flat x.fields) := own_keep ho hB (fun k hk => hk.2)
 refine ⟨x, A, c, rfl, RowD.of_new ho2 hl h0.size, hf, ⟨W, y, A1, c1, w2, h0, hT, hx, hB2, .inl (own_less ho2 h0.size)⟩, ?_⟩
 refine ⟨hB2.os.trans (hk.os.trans h0.os), hB2.tape.trans (hk.tape.trans h0.tape), hB2.output.trans (hk.output.trans h0.output), Nat.le_trans h0.size (Nat.le_trans hk.size hB2.size), fun k hk1 hn1 => ?_⟩
 have h3 : k < W.heap.size := Nat.lt_of_lt_of_le hk1 h0.size
 rw [hB2.block k (Nat.lt_of_lt_of_le h3 hk.size) (fun hd => by have := hd.1; omega), hk.block k h3 hn1, h0.block k hk1]
theorem fin_self {m : Mid} {r : Rq} (hl : ∀ k, D k → k < w.heap.size) (h0 : Below w.heap.size w W) (hb1 : w.heap.size ≤ b) (hb2 : b < W.heap.size) (hz : Below w.heap.size w wz) (ho : wz.ownsRow W.heap.size 59 2 (.slice A x.fields.length c) x.fields.length (flat x.fields)) (hx : aheadP m r = .inr x) (hf : FitS M x) (v0 v1 v2 v3 : Value) :
  GivesX D n0 M (doT m T r) w (.returned (rsV x A c)) (put4 wz b v0 v1 v2 v3) := by
 have hB : Keep (Btw w W) wz (put4 wz b v0 v1 v2 v3) := put4_keep wz ⟨hb1, hb2⟩ v0 v1 v2 v3
 have ho2 : (put4 wz b v0 v1 v2 v3).ownsRow W.heap.size 59 2 (.slice A x.fields.length c) x.fields.length (flat x.fields) := own_keep ho hB (fun k hk => hk.2)
 have hbl : Below w.heap.size w (put4 wz b v0 v1 v2 v3) := ⟨hB.os.trans hz.os, hB.tape.trans hz.tape, hB.output.trans hz.output, Nat.le_trans hz.size hB.size, fun k hk => by
  rw [hB.block k (Nat.lt_of_lt_of_le hk hz.size) (fun hd => by have := hd.1; omega), hz.block k hk]⟩
 exact ⟨x, A, c, rfl, RowD.of_new ho2 hl h0.size, hf, doT_inr hx (own_less ho2 h0.size) hbl, Keep.of hbl⟩
end
end Go.Proofs.YtbnafbdhomdcoaaGreatDoor
namespace Go.Proofs.YtbnafbdhomdcoaaGreatDoor
open Go.RowKit Go.Shelf Go.Lib
theorem X3_eq (w : World) (m : Mid) (A : Option Addr) (c : Nat) (r : Rq) (FA : Option Addr) (fc : Nat) (TA : Option Addr) (tc : Nat) :
    ((w.alloc (.cells #[.int .i64 m.kind, .string m.name, .string m.value, .slice A m.list.length c, .int .i64 m.n] 24)).alloc (.cells #[.string r.method, .string r.target, .int .i64 r.major, .int .i64 r.minor, .slice FA r.fields.length fc, .string r.body, .slice TA r.trailers.length tc] 27)).alloc (.cells #[.int .i64 0, .string ⟨#[]⟩, .slice none 0 0, .string ⟨#[]⟩] 29) = X3 w (midC m A c) (rqC r FA fc TA tc) := rfl
theorem X3_facts {D : Nat → Prop} {w w' : World} {m : Mid} {A : Option Addr} {c : Nat} {r : Rq} {FA : Option Addr} {fc : Nat} {TA : Option Addr} {tc : Nat} (hD : ∀ k, D k → k < w.heap.size) (h : Keep D (X3 w (midC m A c) (rqC r FA fc TA tc)) w') :
    ((w'.cell? ⟨w.heap.size, 0, none⟩ = some (.int .i64 m.kind) ∧ w'.cell? ⟨w.heap.size, 1, none⟩ = some (.string m.name) ∧ w'.cell? ⟨w.heap.size, 2, none⟩ = some (.string m.value) ∧ w'.cell? ⟨w.heap.size, 3, none⟩ = some (.slice A m.list.length c) ∧ w'.cell? ⟨w.heap.size, 4, none⟩ = some (.int .i64 m.n)) ∧
    (w'.cell? ⟨w.heap.size + 1, 0, none⟩ = some (.string r.method) ∧ w'.cell? ⟨w.heap.size + 1, 1, none⟩ = some (.string r.target) ∧ w'.cell? ⟨w.heap.size + 1, 2, none⟩ = some (.int .i64 r.major) ∧ w'.cell? ⟨w.heap.size + 1, 3, none⟩ = some (.int .i64 r.minor) ∧ w'.cell? ⟨w.heap.size + 1, 4, none⟩ = some (.slice FA r.fields.length fc) ∧ w'.cell? ⟨w.heap.size + 1, 5, none⟩ = some (.string r.body) ∧ w'.cell? ⟨w.heap.size + 1, 6, none⟩ = some (.slice TA r.trailers.length tc))) ∧
    ((w'.cell? ⟨w.heap.size + 1 + 1, 0, none⟩ = some (.int .i64 0) ∧ w'.cell? ⟨w.heap.size + 1 + 1, 1, none⟩ = some (.string ⟨#[]⟩) ∧ w'.cell? ⟨w.heap.size + 1 + 1, 2, none⟩ = some (.slice none 0 0) ∧ w'.cell? ⟨w.heap.size + 1 + 1, 3, none⟩ = some (.string ⟨#[]⟩)) ∧
    (w'.frozen? ⟨w.heap.size + 1 + 1, 0, none⟩ = false ∧ w'.frozen? ⟨w.heap.size + 1 + 1, 1, none⟩ = false ∧ w'.frozen? ⟨w.heap.size + 1 + 1, 2, none⟩ = false ∧ w'.frozen? ⟨w.heap.size + 1 + 1, 3, none⟩ = false)) :=
  ⟨⟨⟨X3_mid hD h 0, X3_mid hD h 1, X3_mid hD h 2, X3_mid hD h 3, X3_mid hD h 4⟩, X3_req hD h 0, X3_req hD h 1, X3_req hD h 2, X3_req hD h 3, X3_req hD h 4, X3_req hD h 5, X3_req hD h 6⟩,
   ⟨(X3_res hD h 0).1, (X3_res hD h 1).1, (X3_res hD h 2).1, (X3_res hD h 3).1⟩, (X3_res hD h 0).2, (X3_res hD h 1).2, (X3_res hD h 2).2, (X3_res hD h 3).2⟩
theorem FitM.nameL {m : Mid} (h : FitM m) : m.name.size ≤ maxLen := by have := h.name; unfold maxLen; omega
theorem FitM.valueL {m : Mid} (h : FitM m) : m.value.size ≤ maxLen := by have := h.value; unfold maxLen; omega
theorem far_box {w w' : World} {o : Obj} (h : Below (w.heap.size + 1) (w.alloc o) w') {p : Addr} (hp : p.block < w.heap.size) : w'.cell? p = w.cell? p ∧ w'.frozen? p = w.frozen? p :=
  ⟨(h.cell (by omega)).trans (World.cell?_alloc_lt _ _ _ hp), (h.frozen (by omega)).trans (by rw [World.frozen?_alloc_old]; exact Nat.ne_of_lt hp)⟩
theorem FitS.len {N : Nat} {y : Rs} (h : FitS N y) (hN : N ≤ 1099511627776) : y.fields.length ≤ 1099511627776 := Nat.le_trans h.many hN
set_option maxRecDepth 20000 in
set_option maxHeartbeats 2000000 in
theorem drop_any (D : Nat → Prop) (Pre : World → Prop) (n0 N : Nat) (T : Ans) (f : Value) (w : World) (m : Mid) (r : Rq) (A : Option Addr) (c : Nat) (FA : Option Addr) (fc : Nat) (TA : Option Addr) (tc : Nat)
    (hE : Env D Pre w) (hP : Pre w) (hX : Nx D Pre n0 N w f T) (hN : N ≤ 1099511627776) (hF : RowD D w FA (flat r.fields)) (hT : RowD D w TA (flat r.trailers)) (hm : FitM m) (hr : FitQ r) :
    Calls Tryz.prog 59 #[midV m A c, rqV r FA fc TA tc, f] w (GivesX D n0 N (mapT r (fun y => { y with fields := removeL y.fields m.name }) T) w) := by
  obtain ⟨g, lb, rfl, he, hc⟩ := hX
  have hl := hE.low
  have b0 := X3_below w (midC m A c) (rqC r FA fc TA tc)
  have hk0 : Keep D w (X3 w (midC m A c) (rqC r FA fc TA tc)) := Keep.of b0
  have HC := Lib.hid (hc (X3 w (midC m A c) (rqC r FA fc TA tc)) r FA fc TA tc hk0 (hE.stays _ _ (Keep.refl _ _) hP b0) (hF.below b0) (hT.below b0) hr)
  have HX := Lib.hid (fun w' h => X3_facts (m := m) (A := A) (c := c) (r := r) (FA := FA) (fc := fc) (TA := TA) (tc := tc) (w' := w') hl h)
  have HK := Lib.hid (fun (w' : World) (h : Keep D (X3 w (midC m A c) (rqC r FA fc TA tc)) w') => keep_size h)
  have HL := Lib.hid hl
  have HB0 := Lib.hid b0
  have HM := Lib.hid hm
  clear hc hl b0 hk0 hE hm hP hF hT
  unfold midV rqV
  go_enter Tryz.func59, Tryz.ntmps59
  go_wp2_with fail
  refine HC.out.mono ?_
  rintro e w2 ⟨y, A1, c1, rfl, hrow, hfit, hTT, hk⟩
  have HRM := Lib.hid (fun o => Remove_any A1 c1 y.fields m.name (w2.alloc o) (hrow.row.alloc o) (Nat.le_trans (hfit.len hN) (by decide)) hfit.wide HM.out.nameL)
  obtain ⟨⟨⟨m0, m1, m2, m3, m4⟩, _⟩, ⟨r0, r1, r2, r3⟩, f0, f1, f2, f3⟩ := HX.out w2 hk
  have hz := HK.out w2 hk
  have hz2 : w.heap.size + 1 + 1 < w2.heap.size := by omega
  have hz0 : w.heap.size < w2.heap.size := by omega
  clear HC
  unfold rsV
  obtain ⟨ys, yr, yf, yb⟩ := y
  dsimp only at *
  go_wp2_with fail
  refine (HRM.out _).mono ?_
  rintro e w3 ⟨A2, c2, rfl, ho, hb⟩
  have hb1 : Below (w2.heap.size + 1) (w2.alloc (.cells #[.int .i64 ys, .string yr, .slice A1 yf.length c1, .string yb] 29)) w3 := by simpa using hb
  have ho1 : w3.ownsRow (w2.heap.size + 1) 59 2 (.slice A2 (removeL yf m.name).length c2) (removeL yf m.name).length (flat (removeL yf m.name)) := by simpa using ho
  obtain ⟨c0, g0⟩ := box6 hb1 0
  obtain ⟨c1', g1⟩ := box6 hb1 1
  obtain ⟨c2', g2⟩ := box6 hb1 2
  obtain ⟨c3, g3⟩ := box6 hb1 3
  have hz3 : w2.heap.size < w3.heap.size := box_size hb1
  obtain ⟨q0, p0⟩ := far_box hb1 (p := ⟨w.heap.size + 1 + 1, 0, none⟩) hz2
  obtain ⟨q1, p1⟩ := far_box hb1 (p := ⟨w.heap.size + 1 + 1, 1, none⟩) hz2
  obtain ⟨q2, p2⟩ := far_box hb1 (p := ⟨w.heap.size + 1 + 1, 2, none⟩) hz2
  obtain ⟨q3, p3⟩ := far_box hb1 (p := ⟨w.heap.size + 1 + 1, 3, none⟩) hz2
  rw [r0] at q0
  rw [r1] at q1
  rw [r2] at q2
  rw [r3] at q3
  rw [f0] at p0
  rw [f1] at p1
  rw [f2] at p2
  rw [f3] at p3
  have hz4 : w.heap.size + 1 + 1 < w3.heap.size := by omega
  have HKZ := Lib.hid (show Keep (Btw w (X3 w (midC m A c) (rqC r FA fc TA tc))) w2 (w3.setCell ⟨w2.heap.size, 2, none⟩ (.slice A2 (removeL yf m.name).length c2)) from (Keep.of (below_box hb1)).setCell (Nat.le_refl _) _)
  have HOZ := Lib.hid (own_less (b' := (X3 w (midC m A c) (rqC r FA fc TA tc)).heap.size) (ownsRow_setCell_below (a := ⟨w2.heap.size, 2, none⟩) ho1 (by simp) (.slice A2 (removeL yf m.name).length c2)) (by rw [X3_size]; omega))
  have HF := Lib.hid (show FitS N ⟨ys, yr, removeL yf m.name, yb⟩ from ⟨Nat.le_trans (List.length_filter_le _ _) hfit.many, wide_remove hfit.wide _⟩)
  have HTT := Lib.hid hTT
  have HK2 := Lib.hid hk
  clear hb ho hb1 ho1 hrow hfit hTT hk HRM HX HK r0 r1 r2 r3 f0 f1 f2 f3 hz hz0 m0 m1 m2 m3 m4
  generalize hrl : removeL yf m.name = rl at *
  have HRL := Lib.hid hrl
  clear hrl
  go_wp2
  exact bodyPost_ret (v := rsV ⟨ys, yr, rl, yb⟩ A2 c2) (by simp [results, Tryz.results59, go_sem, rsV, q0, q1, q2, q3]) rfl
    (fin_own HL.out HB0.out (Nat.le_succ_of_le (Nat.le_succ _)) (by rw [X3_size]; omega) HTT.out HK2.out HKZ.out HOZ.out (by rw [HRL.out]) HF.out _ _ _ _)
end Go.Proofs.YtbnafbdhomdcoaaGreatDoor
namespace Go.Proofs.YtbnafbdhomdcoaaGreatDoor.T5
open Go.RowKit Go.Shelf Go.Lib
theorem alnum_yes {c : Int} (h : alnum c = true) : (48 ≤ c ∧ c ≤ 57) ∨ (65 ≤ c ∧ c ≤ 90) ∨ (97 ≤ c ∧ c ≤ 122) := by simp [alnum] at h; omega
theorem alnum_no {c : Int} (h : alnum c = false) : c < 48 ∨ (57 < c ∧ c < 65) ∨ (90 < c ∧ c < 97) ∨ 122 < c := by simp [alnum] at h; omega
theorem unres_alnum {c : Int} (h : alnum c = true) : unres c = true := by unfold unres; rw [h]; rfl
theorem unres_in {c : Int} (h : alnum c = false) : unres c = inB dashes c := by unfold unres; rw [h]; rfl
theorem class_rest {c : Int} (hu : unres c = false) (hs : subd c = false) : ((c == 58) = true ∧ classI c = 4) ∨ ((c == 58) = false ∧ (c == 64) = true ∧ classI c = 4) ∨ ((c == 58) = false ∧ (c == 64) = false ∧ (c == 47) = true ∧ classI c = 8) ∨ ((c == 58) = false ∧ (c == 64) = false ∧ (c == 47) = false ∧ (c == 63) = true ∧ classI c = 16) ∨ ((c == 58) = false ∧ (c == 64) = false ∧ (c == 47) = false ∧ (c == 63) = false ∧ classI c = 0) := by
 unfold classI
 rw [if_neg (by rw [hu]; simp), if_neg (by rw [hs]; simp)]
 by_cases h1 : c = 58
 ·rw [if_pos (.inl h1)]; exact .inl ⟨beq_iff_eq.2 h1, rfl⟩
 ·have g1 := beq_eq_false_iff_ne.2 h1
  by_cases h2 : c = 64
  ·rw [if_pos (.inr h2)]; exact .inr (.inl ⟨g1, beq_iff_eq.2 h2, rfl⟩)
  ·have g2 := beq_eq_false_iff_ne.2 h2
   rw [if_neg (by omega)]
   by_cases h3 : c = 47
   ·rw [if_pos h3]; exact .inr (.inr (.inl ⟨g1, g2, beq_iff_eq.2 h3, rfl⟩))
   ·have g3 := beq_eq_false_iff_ne.2 h3
    rw [if_neg h3]
    by_cases h4 : c = 63
    ·rw [if_pos h4]; exact .inr (.inr (.inr (.inl ⟨g1, g2, g3, beq_iff_eq.2 h4, rfl⟩)))
    ·rw [if_neg h4]; exact .inr (.inr (.inr (.inr ⟨g1, g2, g3, beq_eq_false_iff_ne.2 h4, rfl⟩)))
set_option maxRecDepth 20000 in
set_option maxHeartbeats 1000000 in
theorem class_any (c : Int) (w : World) (h0 : 0 ≤ c) (h1 : c < 256) :
  Calls Tryz.prog 145 #[.int .u8 c] w fun e w' => e = .returned (.int .i64 (classI c)) ∧ w = w' := by
 cases ha : alnum c
 ·have HD := Lib.hid (fun w => IndexByte_any ⟨#[45, 46, 95, 126]⟩ c w h0 h1)
  have HS := Lib.hid (fun w => IndexByte_any ⟨#[33, 36, 38, 39, 40, 41, 42, 43, 44, 59, 61]⟩ c w h0 h1)
  have hd := inB_find ⟨#[45, 46, 95, 126]⟩ c
  have hs := inB_find ⟨#[33, 36, 38, 39, 40, 41, 42, 43, 44, 59, 61]⟩ c
  have hu := unres_in ha
  have hgap := alnum_no ha
  change unres c = inB ⟨#[45, 46, 95, 126]⟩ c at hu
  cases hud : inB ⟨#[45, 46, 95, 126]⟩ c
  ·rw [hud] at hu
   have hd := hd.2 hud
   cases hsd : inB ⟨#[33, 36, 38, 39, 40, 41, 42, 43, 44, 59, 61]⟩ c
   ·have hs := hs.2 hsd
    have hcl := class_rest hu hsd
    rw [hd] at HD
    rw [hs] at HS
    clear hd hs hu hud hsd ha
    rcases hcl with ⟨t1, hc⟩ | ⟨t1, t2, hc⟩ | ⟨t1, t2, t3, hc⟩ | ⟨t1, t2, t3, t4, hc⟩ | ⟨t1, t2, t3, t4, hc⟩
    all_goals
     have HC := Lib.hid hc
     clear hc
     rcases hgap with g1 | ⟨g1, g2⟩ | ⟨g1, g2⟩ | g1
    all_goals
     go_enter Tryz.func145, Tryz.ntmps145
     go_wp2_with fail
     refine (HD.out _).mono ?_
     rintro e w' ⟨rfl, rfl⟩
     go_wp2_with fail
     refine (HS.out _).mono ?_
     rintro e w' ⟨rfl, rfl⟩
     go_wp2
     go_ret
     exact ⟨ret_int HC.out.symm, rfl⟩
   ·have hs := hs.1 hsd
    have HC := Lib.hid (class_sub hu hsd)
    rw [hd] at HD
    clear hd hu hud hsd ha
    generalize findB ⟨#[33, 36, 38, 39, 40, 41, 42, 43, 44, 59, 61]⟩ c = q at *
    rcases hgap with g1 | ⟨g1, g2⟩ | ⟨g1, g2⟩ | g1
    all_goals
     go_enter Tryz.func145, Tryz.ntmps145
     go_wp2_with fail
     refine (HD.out _).mono ?_
     rintro e w' ⟨rfl, rfl⟩
     go_wp2_with fail
     refine (HS.out _).mono ?_
     rintro e w' ⟨rfl, rfl⟩
     go_wp2
     go_ret
     exact ⟨ret_int HC.out.symm, rfl⟩
  ·rw [hud] at hu
   have hd := hd.1 hud
   have HC := Lib.hid (class_unres hu)
   clear hs HS hu hud ha
   generalize findB ⟨#[45, 46, 95, 126]⟩ c = q at *
   rcases hgap with g1 | ⟨g1, g2⟩ | ⟨g1, g2⟩ | g1
   all_goals
    go_enter Tryz.func145, Tryz.ntmps145
    go_wp2_with fail
    refine (HD.out _).mono ?_
    rintro e w' ⟨rfl, rfl⟩
    go_wp2
    go_ret
    exact ⟨ret_int HC.out.symm, rfl⟩
 ·have HC := Lib.hid (class_unres (unres_alnum ha))
  have hr := alnum_yes ha
  clear ha
  rcases hr with ⟨g1, g2⟩ | ⟨g1, g2⟩ | ⟨g1, g2⟩
  all_goals
   go_enter Tryz.func145, Tryz.ntmps145
   go_wp2
   go_ret
   exact ⟨ret_int HC.out.symm, rfl⟩
theorem digV_cases (c : Int) (h0 : 0 ≤ c) (h1 : c < 256) : (48 ≤ c ∧ c ≤ 57 ∧ digV c = c - 48) ∨ (97 ≤ c ∧ c ≤ 102 ∧ digV c = c - 97 + 10) ∨ (65 ≤ c ∧ c ≤ 70 ∧ digV c = c - 65 + 10) ∨ (((c < 48) ∨ (57 < c ∧ c < 65) ∨ (70 < c ∧ c < 97) ∨ 102 < c) ∧ digV c = -1) := by
 unfold digV
 by_cases a : 48 ≤ c ∧ c ≤ 57
 ·rw [if_pos a]; exact .inl ⟨a.1, a.2, rfl⟩
 ·rw [if_neg a]
  by_cases b : 97 ≤ c ∧ c ≤ 102
  ·rw [if_pos b]; exact .inr (.inl ⟨b.1, b.2, by omega⟩)
  ·rw [if_neg b]
   by_cases d : 65 ≤ c ∧ c ≤ 70
   ·rw [if_pos d]; exact .inr (.inr (.inl ⟨d.1, d.2, by omega⟩))
   ·rw [if_neg d]; exact .inr (.inr (.inr ⟨by omega, rfl⟩))
set_option maxRecDepth 20000 in
theorem digit_any (c : Int) (w : World) (h0 : 0 ≤ c) (h1 : c < 256) :
  Calls Tryz.prog 189 #[.int .u8 c] w fun e w' => e = .returned (.int .i64 (digV c)) ∧ w = w' := by
 rcases digV_cases c h0 h1 with ⟨g1, g2, h⟩ | ⟨g1, g2, h⟩ | ⟨g1, g2, h⟩ | ⟨g, h⟩
 case' inr.inr.inr => rcases g with g1 | ⟨g1, g2⟩ | ⟨g1, g2⟩ | g1
 all_goals
  have HC := Lib.hid h
  clear h
  go_enter Tryz.func189, Tryz.ntmps189
  go_wp2
  go_ret
  exact ⟨ret_int HC.out.symm, rfl⟩
def GivesTri (w : World) (s : ByteArray) (i : Nat) (e : Ending) (w' : World) : Prop := ∃ v : Int, e = .returned (.tuple #[.int .u8 v, .bool (tri s i)]) ∧ (tri s i = true → v = triV s i) ∧ ∃ q : Nat, w' = w.drewN q
theorem tri_sum {a b : Int} (h0 : 0 ≤ a) (h1 : a < 16) (h2 : 0 ≤ b) (h3 : b < 16) : bits BinOp.or IntKind.i64 (a * 16) (bits BinOp.and IntKind.i64 b 15) = a * 16 + b := by
 obtain ⟨n, rfl⟩ := Int.eq_ofNat_of_zero_le h0
 obtain ⟨m, rfl⟩ := Int.eq_ofNat_of_zero_le h2
 have key : ∀ n : Nat, n < 16 → ∀ m : Nat, m < 16 → bits BinOp.or IntKind.i64 ((n : Int) * 16) (bits BinOp.and IntKind.i64 (m : Int) 15) = (n : Int) * 16 + m := by decide +kernel
 exact key n (by omega) m (by omega)
end Go.Proofs.YtbnafbdhomdcoaaGreatDoor.T5
