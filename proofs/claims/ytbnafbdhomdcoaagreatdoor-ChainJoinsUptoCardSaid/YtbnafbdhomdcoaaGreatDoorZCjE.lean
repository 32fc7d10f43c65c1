/-
 CjE, without what this claim does not reach.
-/
import Derived.Test.YtbnafbdhomdcoaaGreatDoorZCjC2
import Derived.Test.YtbnafbdhomdcoaaGreatDoorZm29
import Derived.Deep.DeepCutAuto
import Derived.Deep.RegionWith
namespace Go.Proofs.YtbnafbdhomdcoaaGreatDoor
open Go.RowKit Go.Shelf Go.Lib
theorem fin_wide {D : Nat → Prop} {n0 N b : Nat} {R : World → Rs → Option Addr → Nat → World → Prop} {w W w2 : World} {x : Rs} {A : Option Addr} {c : Nat}
  (hR : ∀ w3, Below w.heap.size w W → R W x A c w2 → Keep (Btw w W) w2 w3 → R w x A c w3)
  (hn : n0 ≤ w.heap.size) (h0 : Below w.heap.size w W) (hb1 : w.heap.size ≤ b) (hb2 : b < W.heap.size) (hr : RowD (Out D n0 W) w2 A (flat x.fields)) (hf : FitS N x) (hT : R W x A c w2) (hk : Keep D W w2) (v0 v1 v2 v3 : Value) :
  GivesX D n0 N R w (.returned (rsV x A c)) (put4 w2 b v0 v1 v2 v3) := by
 have hB : Keep (Btw w W) w2 (put4 w2 b v0 v1 v2 v3) := put4_keep w2 ⟨hb1, hb2⟩ v0 v1 v2 v3
 refine ⟨x, A, c, rfl, hr.back hn h0.size hB, hf, hR _ h0 hT hB, ?_⟩
 refine ⟨hB.os.trans (hk.os.trans h0.os), hB.tape.trans (hk.tape.trans h0.tape), hB.output.trans (hk.output.trans h0.output), Nat.le_trans h0.size (Nat.le_trans hk.size hB.size), fun k hk1 hn1 => ?_⟩
 have h3 : k < W.heap.size := Nat.lt_of_lt_of_le hk1 h0.size
 rw [hB.block k (Nat.lt_of_lt_of_le h3 hk.size) (fun hd => by have := hd.1; omega), hk.block k h3 hn1, h0.block k hk1]
def Y2 (w : World) (b : Array Value) : World := (w.alloc (.cells b 27)).alloc (.cells rsC0 29)
section
variable {D : Nat → Prop} {w w' : World} {b : Array Value}
theorem Y2_size (w : World) (b : Array Value) : (Y2 w b).heap.size = w.heap.size + 2 := by simp [Y2]
theorem Y2_below (w : World) (b : Array Value) : Below w.heap.size w (Y2 w b) := ((Below.refl _ w).alloc (Nat.le_refl _) _).alloc (by simp) _
theorem Y2_req (hD : ∀ k, D k → k < w.heap.size) (h : Keep D (Y2 w b) w') (j : Nat) : w'.cell? ⟨w.heap.size, j, none⟩ = b[j]? := by
 rw [h.cell (p := ⟨w.heap.size, j, none⟩) (by rw [Y2_size]; simp) (fun hd => by have h3 : w.heap.size < w.heap.size := hD _ hd; omega)]
 unfold Y2
 rw [World.cell?_alloc_lt _ _ _ (by simp), World.cell?_alloc_new]
theorem Y2_res (hD : ∀ k, D k → k < w.heap.size) (h : Keep D (Y2 w b) w') (j : Nat) : w'.cell? ⟨w.heap.size + 1, j, none⟩ = rsC0[j]? ∧ w'.frozen? ⟨w.heap.size + 1, j, none⟩ = false := by
 have hn : ¬ D (w.heap.size + 1) := fun hd => by have := hD _ hd; omega
 refine ⟨?_, ?_⟩
 ·rw [h.cell (p := ⟨w.heap.size + 1, j, none⟩) (by rw [Y2_size]; simp) hn]
  exact World.cell?_alloc_at _ _ _ _ (by simp)
 ·rw [h.frozen (p := ⟨w.heap.size + 1, j, none⟩) (by rw [Y2_size]; simp) hn]
  exact World.frozen?_alloc_at _ _ _ _ (by simp)
theorem Y2_resF (hD : ∀ k, D k → k < w.heap.size) (h : Keep D (Y2 w b) w') :
  ((w'.cell? ⟨w.heap.size + 1, 0, none⟩ = some (.int .i64 0) ∧ w'.cell? ⟨w.heap.size + 1, 1, none⟩ = some (.string ⟨#[]⟩) ∧ w'.cell? ⟨w.heap.size + 1, 2, none⟩ = some (.slice none 0 0) ∧ w'.cell? ⟨w.heap.size + 1, 3, none⟩ = some (.string ⟨#[]⟩)) ∧
  (w'.frozen? ⟨w.heap.size + 1, 0, none⟩ = false ∧ w'.frozen? ⟨w.heap.size + 1, 1, none⟩ = false ∧ w'.frozen? ⟨w.heap.size + 1, 2, none⟩ = false ∧ w'.frozen? ⟨w.heap.size + 1, 3, none⟩ = false)) ∧ w.heap.size + 1 < w'.heap.size :=
 ⟨⟨⟨(Y2_res hD h 0).1, (Y2_res hD h 1).1, (Y2_res hD h 2).1, (Y2_res hD h 3).1⟩, (Y2_res hD h 0).2, (Y2_res hD h 1).2, (Y2_res hD h 2).2, (Y2_res hD h 3).2⟩, by have := h.size; rw [Y2_size] at this; omega⟩
end
set_option maxRecDepth 20000 in
theorem nx_run2 {D : Nat → Prop} {Pre : World → Prop} {n0 N : Nat} {w0 : World} {T : Ans} {m : Mid} {A : Option Addr} {c : Nat} {dg : FuncId} {fv : Value} {b1 b2 b3 : Nat} (hd : DoAt m dg) (hE : Env D Pre w0) (hX : Nx D Pre n0 N w0 fv T) (hn0 : n0 ≤ w0.heap.size) (hN8 : 8 ≤ N) (hN : N ≤ 1099511627776)
  (hA : RowD D w0 A (m.list.map .string)) (hcap : m.list.length ≤ c) (hm : FitM m)
  (h1 : w0.cell? ⟨b1, 0, none⟩ = some (.func (.func dg) #[] #[]))
  (h2 : ∀ j, j < 5 → w0.cell? ⟨b2, j, none⟩ = (midC m A c)[j]?)
  (h3 : w0.cell? ⟨b3, 0, none⟩ = some fv) (hl : (b1 < w0.heap.size ∧ b2 < w0.heap.size ∧ b3 < w0.heap.size) ∧ (¬ D b1 ∧ ¬ D b2 ∧ ¬ D b3)) :
  Nx D Pre n0 (N + 2) w0 (.func (.func 36) #[] #[.pointer (some ⟨b1, 0, none⟩), .pointer (some ⟨b2, 0, none⟩), .pointer (some ⟨b3, 0, none⟩)]) (doT m T) := by
 refine ⟨36, _, rfl, fun args w => Tryz.call36 args w, fun W r FA fc TA tc hk hp hF hT hr => ?_⟩
 have hlw : ∀ k, D k → k < W.heap.size := fun k hd => Nat.lt_of_lt_of_le (hE.low k hd) hk.size
 have HL := Lib.hid hlw
 have HB0 := Lib.hid (Y2_below W (rqC r FA fc TA tc))
 have hkY : Keep D w0 (Y2 W (rqC r FA fc TA tc)) := hk.step HB0.out
 have HDO := Lib.hid (hd.2 D Pre n0 N T fv (Y2 W (rqC r FA fc TA tc)) r A c FA fc TA tc (hE.later hkY) (hE.stays _ _ hk hp HB0.out) (hX.later hkY) (Nat.le_trans hn0 hkY.size) hN8 hN (hA.keep hkY) hcap (hF.below HB0.out) (hT.below HB0.out) hm hr)
 have HN0 := Lib.hid (Nat.le_trans hn0 hk.size)
 obtain ⟨⟨l1, l2, l3⟩, n1, n2, n3⟩ := hl
 have k1 := (hk.cell (p := ⟨b1, 0, none⟩) l1 n1).trans h1
 have k20 : W.cell? ⟨b2, 0, none⟩ = some (.int .i64 m.kind) := (hk.cell (p := ⟨b2, 0, none⟩) l2 n2).trans (h2 0 (by omega))
 have k21 : W.cell? ⟨b2, 1, none⟩ = some (.string m.name) := (hk.cell (p := ⟨b2, 1, none⟩) l2 n2).trans (h2 1 (by omega))
 have k22 : W.cell? ⟨b2, 2, none⟩ = some (.string m.value) := (hk.cell (p := ⟨b2, 2, none⟩) l2 n2).trans (h2 2 (by omega))
 have k23 : W.cell? ⟨b2, 3, none⟩ = some (.slice A m.list.length c) := (hk.cell (p := ⟨b2, 3, none⟩) l2 n2).trans (h2 3 (by omega))
 have k24 : W.cell? ⟨b2, 4, none⟩ = some (.int .i64 m.n) := (hk.cell (p := ⟨b2, 4, none⟩) l2 n2).trans (h2 4 (by omega))
 have k3 := (hk.cell (p := ⟨b3, 0, none⟩) l3 n3).trans h3
 have q1 : b1 < W.heap.size := Nat.lt_of_lt_of_le l1 hk.size
 have q2 : b2 < W.heap.size := Nat.lt_of_lt_of_le l2 hk.size
 have q3 : b3 < W.heap.size := Nat.lt_of_lt_of_le l3 hk.size
 obtain ⟨g, lb, rfl, _, _⟩ := hX
 have he : ∀ args w, (callFunc dg args).run Tryz.prog w = .ok (.enter dg args) w := hd.1
 clear hd hE hn0 hN8 hN hA hcap hm h1 h2 h3 l1 l2 l3 n1 n2 n3 hk hp hF hT hr hkY hlw
 show Calls Tryz.prog 36 #[rqV r FA fc TA tc, .pointer (some ⟨b1, 0, none⟩), .pointer (some ⟨b2, 0, none⟩), .pointer (some ⟨b3, 0, none⟩)] W (GivesX D n0 (N + 2) (doT m T r) W)
 unfold midV rqV at *
 go_enter Tryz.func36, Tryz.ntmps36
 go_wp2_with fail
 refine HDO.out.mono ?_
 rintro e w2 ⟨y, A1, c1, rfl, hrow, hfit, hTT, hk⟩
 obtain ⟨⟨⟨r0, r1, r2, r3⟩, f0, f1, f2, f3⟩, hz⟩ := Y2_resF HL.out hk
 have HE := Lib.hid (fin_wide (N := N + 2) (b := W.heap.size + 1) (R := doT m T r) (fun w3 => fun g1 g2 g3 => doT_wide g1 g2 g3) HN0.out HB0.out (Nat.le_succ _) (by rw [Y2_size]; omega) hrow hfit hTT hk (.int .i64 y.status) (.string y.reason) (.slice A1 y.fields.length c1) (.string y.body))
 clear hrow hfit hTT hk HDO
 unfold rsV at *
 go_wp2
 exact bodyPost_ret (v := rsV y A1 c1) (by simp [results, Tryz.results36, go_sem, rsV, r0, r1, r2, r3]) rfl HE.out
end Go.Proofs.YtbnafbdhomdcoaaGreatDoor
