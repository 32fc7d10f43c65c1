/-
 CjC, without what this claim does not reach.
-/
import Derived.Test.YtbnafbdhomdcoaaGreatDoorZCjV4
namespace Go.Proofs.YtbnafbdhomdcoaaGreatDoor
open Go.RowKit Go.Shelf Go.Lib
def workC : Array Value := #[.int .i64 3, .func (.func 53) #[] #[], .func (.func 56) #[] #[],
 .int .i64 3, .func (.func 53) #[] #[], .func (.func 57) #[] #[],
 .int .i64 1, .func (.func 58) #[] #[], .func (.func 59) #[] #[],
 .int .i64 4, .func (.func 60) #[] #[], .func (.func 62) #[] #[],
 .int .i64 8, .func (.func 63) #[] #[], .func (.func 64) #[] #[],
 .int .i64 2, .func (.func 65) #[] #[], .func (.func 67) #[] #[],
 .int .i64 5, .func (.func 68) #[] #[], .func (.func 69) #[] #[],
 .int .i64 14, .func (.func 70) #[] #[], .func (.func 71) #[] #[],
 .int .i64 2, .func (.func 72) #[] #[], .func (.func 73) #[] #[],
 .int .i64 4, .func (.func 74) #[] #[], .func (.func 75) #[] #[]]
set_option maxRecDepth 20000 in
theorem works_all (w : World) :
  Calls Tryz.prog 35 #[] w fun e w' => e = .returned (.slice (some ⟨w.heap.size, 0, none⟩) 10 10) ∧ w' = w.alloc (.cells workC 76) := by
 go_enter Tryz.func35, Tryz.ntmps35
 go_wp2
 go_ret
 exact ⟨rfl, rfl⟩
theorem uses_any (u b : Int) (t : Bool) (B : Nat) (w : World) (z : Bool) (hu : (bits .and .i64 u b != 0) = t) (hc : w.cell? ⟨B, 0, none⟩ = some (.int .i64 u)) :
  Calls Tryz.prog 52 #[.int .i64 b, .bool z, .pointer (some ⟨B, 0, none⟩)] w fun e w' => e = .returned (.bool (t || z)) ∧ w = w' := by
 cases t
 ·go_enter Tryz.func52, Tryz.ntmps52
  go_wp2
  go_ret
  exact ⟨by simp, rfl⟩
 ·go_enter Tryz.func52, Tryz.ntmps52
  go_wp2
  go_ret
  exact ⟨rfl, rfl⟩
theorem works3_any (m : Mid) (A : Option Addr) (c : Nat) (w : World) (hr : Row w A (m.list.map .string)) (hc : m.list.length ≤ c) (hm : FitM m) (hg : Glob w) :
  Calls Tryz.prog 60 #[midV m A c] w fun e w' => e = .returned (.bool (freshL [] m.list && decide (0 < m.list.length))) ∧ Below w.heap.size w w' := by
 have hb0 : ∀ o, Below w.heap.size w (w.alloc o) := fun o => (Below.refl _ w).alloc (Nat.le_refl _) o
 have HT := Lib.hid (fun o => areTokens_any A c m.list (w.alloc o) (hr.alloc o) hc (list_sizes hm.list).2.1 (fun s hs => list_size hm.list hs) (hg.beyond (hb0 o)))
 clear hb0
 unfold midV
 go_enter Tryz.func60, Tryz.ntmps60
 go_wp2_with fail
 refine (HT.out _).mono ?_
 rintro e w1 ⟨rfl, rfl⟩
 go_wp2
 go_ret
 exact ⟨rfl, (Below.refl _ w).alloc (Nat.le_refl _) _⟩
theorem works5_any (m : Mid) (A : Option Addr) (c : Nat) (w : World) (hm : FitM m) (hg : GlobC w) :
  Calls Tryz.prog 65 #[midV m A c] w fun e w' => e = .returned (.bool (prefixOk m.value)) ∧ Below w.heap.size w w' := by
 have HT := Lib.hid (fun o => isPrefix_any m.value (w.alloc o) hm.value (hg.beyond ((Below.refl _ w).alloc (Nat.le_refl _) o)))
 unfold midV
 go_enter Tryz.func65, Tryz.ntmps65
 go_wp2_with fail
 refine (HT.out _).mono ?_
 rintro e w1 ⟨rfl, b1⟩
 have hbw := one_box b1 rfl
 clear b1
 go_wp2
 go_ret
 exact ⟨rfl, hbw⟩
def bareB (t1 t2 t3 t4 : Bool) (m : Mid) : Bool := (t1 || decide (m.name.size = 0)) && ((t2 || decide (m.value.size = 0)) && ((t3 || decide (m.list.length = 0)) && (t4 || decide (m.n = 0))))
def checkN (b : Bool) : Int := if b = true then 0 else 190
set_option maxRecDepth 20000 in
set_option maxHeartbeats 4000000 in
theorem Check_core (m : Mid) (A : Option Addr) (c : Nat) (w : World) (j : Nat) (hj : j < 10) (hk : m.kind = (j : Int) + 1) (u : Int) (rg dg : FuncId) (t1 t2 t3 t4 rb : Bool)
  (h0 : workC[j * 3]? = some (.int .i64 u)) (h1 : workC[j * 3 + 1]? = some (.func (.func rg) #[] #[])) (h2 : workC[j * 3 + 2]? = some (.func (.func dg) #[] #[]))
  (u1 : (bits .and .i64 u 1 != 0) = t1) (u2 : (bits .and .i64 u 2 != 0) = t2) (u3 : (bits .and .i64 u 4 != 0) = t3) (u4 : (bits .and .i64 u 8 != 0) = t4)
  (he : ∀ args w, (callFunc rg args).run Tryz.prog w = .ok (.enter rg args) w)
  (hR : ∀ W, Below w.heap.size w W → Calls Tryz.prog rg #[midV m A c] W fun e w' => e = .returned (.bool rb) ∧ Below W.heap.size W w') :
  Calls Tryz.prog 34 #[midV m A c] w fun e w' => e = .returned (.int .i64 (checkN (bareB t1 t2 t3 t4 m && rb))) ∧ Below w.heap.size w w' := by
 have hmf : ∀ (fn : Fn) (first cap : Array Value) (w : World), (Instr.makeFunc fn first cap).run Tryz.prog w = .ok (.func fn first cap) w := fun _ _ _ _ => rfl
 have HW := Lib.hid works_all
 have HR := Lib.hid hR
 have HC := Lib.hid (And.intro h0 (And.intro h1 h2))
 have hzn := empty_eq m.name
 have hzv := empty_eq m.value
 have hzl : ((m.list.length : Int) == 0) = decide (m.list.length = 0) := by rw [Bool.eq_iff_iff]; simp
 have hzn4 : (m.n == 0) = decide (m.n = 0) := by rw [Bool.eq_iff_iff]; simp
 have HBB := Lib.hid (show bareB t1 t2 t3 t4 m = ((t1 || decide (m.name.size = 0)) && ((t2 || decide (m.value.size = 0)) && ((t3 || decide (m.list.length = 0)) && (t4 || decide (m.n = 0))))) from rfl)
 generalize decide (m.name.size = 0) = z1 at *
 generalize decide (m.value.size = 0) = z2 at *
 generalize decide (m.list.length = 0) = z3 at *
 generalize decide (m.n = 0) = z4 at *
 have HU1 := Lib.hid (fun B w => uses_any u 1 t1 B w z1 u1)
 have HU2 := Lib.hid (fun B w => uses_any u 2 t2 B w z2 u2)
 have HU3 := Lib.hid (fun B w => uses_any u 4 t3 B w z3 u3)
 have HU4 := Lib.hid (fun B w => uses_any u 8 t4 B w z4 u4)
 generalize (t1 || z1) = b1 at *
 generalize (t2 || z2) = b2 at *
 generalize (t3 || z3) = b3 at *
 generalize (t4 || z4) = b4 at *
 have hk1 : (1 : Int) ≤ m.kind := by omega
 have hk2 : m.kind ≤ 10 := by omega
 have hkw : m.kind - 1 = (j : Int) := by omega
 have hji : (j : Int) < 10 := by omega
 clear h0 h1 h2 u1 u2 u3 u4 hR hk
 unfold midV at *
 go_enter Tryz.func34, Tryz.ntmps34
 go_wp2_with fail
 refine (HW.out _).mono ?_
 rintro e w1 ⟨rfl, hw1⟩
 have hbx : Below (w.heap.size + 1) (w.alloc (.cells #[.int .i64 m.kind, .string m.name, .string m.value, .slice A m.list.length c, .int .i64 m.n] 24)) w1 := by
  rw [hw1]
  exact (Below.refl _ _).alloc (by simp) _
 obtain ⟨⟨c0, c1, c2, c3, c4⟩, hz⟩ := mid_cells hbx
 have hT : ∀ i, w1.cell? ⟨w.heap.size + 1, i, none⟩ = workC[i]? := fun i => by
  rw [hw1]
  exact World.cell?_alloc_at _ _ _ _ (by simp)
 have k0 := (hT (j * 3)).trans HC.out.1
 have k1 := (hT (j * 3 + 1)).trans HC.out.2.1
 have k2 := (hT (j * 3 + 2)).trans HC.out.2.2
 have hz1 : w.heap.size + 1 < w1.heap.size := by rw [hw1]; simp
 clear hT hw1
 have hbw := hbx.trans ((Below.refl _ w1).alloc (by omega) (.cells #[.int .i64 u, .func (.func rg) #[] #[], .func (.func dg) #[] #[]] 76))
 have hbw2 := below_box hbw
 have HRR := Lib.hid (HR.out _ hbw2)
 cases b1
 ·have HX := Lib.hid (show bareB t1 t2 t3 t4 m = false by rw [HBB.out]; rfl)
  go_wp2_with fail
  refine (HU1.out _ _ (by simp)).mono ?_
  rintro e w2 ⟨rfl, rfl⟩
  go_wp2
  go_ret
  exact ⟨ret_int (by rw [HX.out]; rfl), hbw2⟩
 ·cases b2
  ·have HX := Lib.hid (show bareB t1 t2 t3 t4 m = false by rw [HBB.out]; rfl)
   go_wp2_with fail
   refine (HU1.out _ _ (by simp)).mono ?_
   rintro e w2 ⟨rfl, rfl⟩
   go_wp2_with fail
   refine (HU2.out _ _ (by simp)).mono ?_
   rintro e w2 ⟨rfl, rfl⟩
   go_wp2
   go_ret
   exact ⟨ret_int (by rw [HX.out]; rfl), hbw2⟩
  ·cases b3
   ·have HX := Lib.hid (show bareB t1 t2 t3 t4 m = false by rw [HBB.out]; rfl)
    go_wp2_with fail
    refine (HU1.out _ _ (by simp)).mono ?_
    rintro e w2 ⟨rfl, rfl⟩
    go_wp2_with fail
    refine (HU2.out _ _ (by simp)).mono ?_
    rintro e w2 ⟨rfl, rfl⟩
    go_wp2_with fail
    refine (HU3.out _ _ (by simp)).mono ?_
    rintro e w2 ⟨rfl, rfl⟩
    go_wp2
    go_ret
    exact ⟨ret_int (by rw [HX.out]; rfl), hbw2⟩
   ·cases b4
    ·have HX := Lib.hid (show bareB t1 t2 t3 t4 m = false by rw [HBB.out]; rfl)
     go_wp2_with fail
     refine (HU1.out _ _ (by simp)).mono ?_
     rintro e w2 ⟨rfl, rfl⟩
     go_wp2_with fail
     refine (HU2.out _ _ (by simp)).mono ?_
     rintro e w2 ⟨rfl, rfl⟩
     go_wp2_with fail
     refine (HU3.out _ _ (by simp)).mono ?_
     rintro e w2 ⟨rfl, rfl⟩
     go_wp2_with fail
     refine (HU4.out _ _ (by simp)).mono ?_
     rintro e w2 ⟨rfl, rfl⟩
     go_wp2
     go_ret
     exact ⟨ret_int (by rw [HX.out]; rfl), hbw2⟩
    ·have HX := Lib.hid (show bareB t1 t2 t3 t4 m = true by rw [HBB.out]; rfl)
     cases rb
     all_goals
      go_wp2_with fail
      refine (HU1.out _ _ (by simp)).mono ?_
      rintro e w2 ⟨rfl, rfl⟩
      go_wp2_with fail
      refine (HU2.out _ _ (by simp)).mono ?_
      rintro e w2 ⟨rfl, rfl⟩
      go_wp2_with fail
      refine (HU3.out _ _ (by simp)).mono ?_
      rintro e w2 ⟨rfl, rfl⟩
      go_wp2_with fail
      refine (HU4.out _ _ (by simp)).mono ?_
      rintro e w2 ⟨rfl, rfl⟩
      go_wp2_with fail
      refine HRR.out.mono ?_
      rintro e w2 ⟨rfl, hb2⟩
      have hb3 := hbw2.trans (hb2.mono hbw2.size)
      clear hb2
      go_wp2
      go_ret
      exact ⟨ret_int (by rw [HX.out]; rfl), hb3⟩
end Go.Proofs.YtbnafbdhomdcoaaGreatDoor
