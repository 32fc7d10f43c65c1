/-
 ChC, without what this claim does not reach.
-/
import Derived.Test.YtbnafbdhomdcoaaGreatDoorZm9
import Derived.Test.YtbnafbdhomdcoaaGreatDoorZm8
import Derived.Deep.DeepCutAuto
import Derived.Deep.RegionWith
namespace Go.Proofs.YtbnafbdhomdcoaaGreatDoor
open Go.RowKit Go.Shelf Go.Lib
set_option maxRecDepth 20000 in
set_option maxHeartbeats 2000000 in
theorem awake1_any (w : World) :
  Calls Tryz.prog 28 #[.agg #[.string ⟨#[]⟩, .string ⟨#[]⟩, .int .i64 0, .int .i64 0, .slice none 0 0, .string ⟨#[]⟩, .slice none 0 0]] w fun e w' => e = .returned (.agg #[.int .i64 200, .string ⟨#[]⟩, .slice none 0 0, .string ⟨#[]⟩]) ∧ Below w.heap.size w w' := by
 go_enter Tryz.func28, Tryz.ntmps28
 go_wp2
 exact bodyPost_ret (v := .agg #[.int .i64 200, .string ⟨#[]⟩, .slice none 0 0, .string ⟨#[]⟩]) (by simp [results, Tryz.results28, go_sem]) rfl ⟨rfl, by (repeat (first | (with_reducible refine Below.setCell ?_ (by simp) _))); exact ((Below.refl _ w).alloc (Nat.le_refl _) _).alloc (by simp) _⟩
def reqCells : Array Value := #[.string ⟨#[]⟩, .string ⟨#[]⟩, .int .i64 0, .int .i64 0, .slice none 0 0, .string ⟨#[]⟩, .slice none 0 0]
def W3 (w : World) : World := ((w.alloc (.cells #[.int .i64 1, .string ⟨#[88]⟩, .string ⟨#[49]⟩, .slice none 0 0, .int .i64 0] 24)).alloc (.cells #[.string ⟨#[]⟩, .string ⟨#[]⟩, .int .i64 0, .int .i64 0, .slice none 0 0, .string ⟨#[]⟩, .slice none 0 0] 27)).alloc (.cells #[.int .i64 0, .string ⟨#[]⟩, .slice none 0 0, .string ⟨#[]⟩] 29)
theorem W3_size (w : World) : (W3 w).heap.size = w.heap.size + 3 := by simp [W3]
theorem W3_below (w : World) : Below w.heap.size w (W3 w) := (((Below.refl _ w).alloc (Nat.le_refl _) _).alloc (by simp) _).alloc (by simp; omega) _
theorem W3_mid {w w' : World} (h : Below (w.heap.size + 2) (W3 w) w') (j : Nat) : w'.cell? ⟨w.heap.size, j, none⟩ = (#[.int .i64 1, .string ⟨#[88]⟩, .string ⟨#[49]⟩, .slice none 0 0, .int .i64 0] : Array Value)[j]? := by
 rw [h.cell (p := ⟨w.heap.size, j, none⟩) (by simp)]
 unfold W3
 rw [World.cell?_alloc_lt _ _ _ (by simp; omega), World.cell?_alloc_lt _ _ _ (by simp), World.cell?_alloc_new]
theorem W3_req {w w' : World} (h : Below (w.heap.size + 2) (W3 w) w') (j : Nat) : w'.cell? ⟨w.heap.size + 1, j, none⟩ = reqCells[j]? := by
 rw [h.cell (p := ⟨w.heap.size + 1, j, none⟩) (by simp)]
 unfold W3
 rw [World.cell?_alloc_lt _ _ _ (by simp)]
 exact World.cell?_alloc_at _ _ _ _ (by simp)
theorem W3_res {w w' : World} (h : Below (w.heap.size + 3) (W3 w) w') (j : Nat) : w'.cell? ⟨w.heap.size + 1 + 1, j, none⟩ = (#[.int .i64 0, .string ⟨#[]⟩, .slice none 0 0, .string ⟨#[]⟩] : Array Value)[j]? ∧ w'.frozen? ⟨w.heap.size + 1 + 1, j, none⟩ = false := by
 refine ⟨?_, ?_⟩
 ·rw [h.cell (p := ⟨w.heap.size + 1 + 1, j, none⟩) (by simp)]
  exact World.cell?_alloc_at _ _ _ _ (by simp)
 ·rw [h.frozen (p := ⟨w.heap.size + 1 + 1, j, none⟩) (by simp)]
  exact World.frozen?_alloc_at _ _ _ _ (by simp)
theorem addS {w w' : World} (h : Below (w.heap.size + 2) (W3 w) w') : Below (w.heap.size + 2) (W3 w) w' ∧ (w'.cell? ⟨w.heap.size, 1, none⟩ = some (.string ⟨#[88]⟩) ∧ w'.cell? ⟨w.heap.size, 2, none⟩ = some (.string ⟨#[49]⟩)) ∧ (w'.cell? ⟨w.heap.size + 1, 0, none⟩ = some (.string ⟨#[]⟩) ∧ w'.cell? ⟨w.heap.size + 1, 1, none⟩ = some (.string ⟨#[]⟩) ∧ w'.cell? ⟨w.heap.size + 1, 2, none⟩ = some (.int .i64 0) ∧ w'.cell? ⟨w.heap.size + 1, 3, none⟩ = some (.int .i64 0) ∧ w'.cell? ⟨w.heap.size + 1, 4, none⟩ = some (.slice none 0 0) ∧ w'.cell? ⟨w.heap.size + 1, 5, none⟩ = some (.string ⟨#[]⟩) ∧ w'.cell? ⟨w.heap.size + 1, 6, none⟩ = some (.slice none 0 0)) :=
 ⟨h, ⟨W3_mid h 1, W3_mid h 2⟩, W3_req h 0, W3_req h 1, W3_req h 2, W3_req h 3, W3_req h 4, W3_req h 5, W3_req h 6⟩
theorem addS_alloc {w w' : World} {n : Nat} (hn : n ≤ w.heap.size + 3) (h : Below n (W3 w) w') (o : Obj) : Below n (W3 w) (w'.alloc o) := h.alloc (by have := h.size; rw [W3_size] at this; omega) o
theorem addS_step {w w' w2 : World} {n m : Nat} (hm : m ≤ w.heap.size + 3) (h2 : Below n w' w2) (hn : n = w'.heap.size) (h : Below m (W3 w) w') : Below m (W3 w) w2 := h.trans (h2.mono (by have := h.size; rw [W3_size] at this; omega))
set_option maxRecDepth 20000 in
set_option maxHeartbeats 2000000 in
theorem add_one (w : World) :
  Calls Tryz.prog 56 #[.agg #[.int .i64 1, .string ⟨#[88]⟩, .string ⟨#[49]⟩, .slice none 0 0, .int .i64 0], .agg #[.string ⟨#[]⟩, .string ⟨#[]⟩, .int .i64 0, .int .i64 0, .slice none 0 0, .string ⟨#[]⟩, .slice none 0 0], .func (.func 28) #[] #[]] w (GivesRs w 200 ⟨#[]⟩ [(⟨#[88]⟩, ⟨#[49]⟩)] ⟨#[]⟩) := by
 go_enter Tryz.func56, Tryz.ntmps56
 go_wp2_with fail
 rw [show ((w.alloc (.cells #[.int .i64 1, .string ⟨#[88]⟩, .string ⟨#[49]⟩, .slice none 0 0, .int .i64 0] 24)).alloc (.cells #[.string ⟨#[]⟩, .string ⟨#[]⟩, .int .i64 0, .int .i64 0, .slice none 0 0, .string ⟨#[]⟩, .slice none 0 0] 27)).alloc (.cells #[.int .i64 0, .string ⟨#[]⟩, .slice none 0 0, .string ⟨#[]⟩] 29) = W3 w from rfl]
 obtain ⟨h0, ⟨m1, m2⟩, q0, q1, q2, q3, q4, q5, q6⟩ := addS (Below.refl (w.heap.size + 2) (W3 w))
 obtain ⟨W0, hW0⟩ : ∃ W0, W0 = W3 w := ⟨_, rfl⟩
 rw [← hW0] at m1 m2 q0 q1 q2 q3 q4 q5 q6 ⊢
 clear h0
 have h3 : Below (w.heap.size + 3) (W3 w) W0 := by rw [hW0]; exact Below.refl _ _
 have h2 : Below (w.heap.size + 2) (W3 w) W0 := h3.mono (by omega)
 have HS := Lib.hid (fun w' (h : Below (w.heap.size + 2) (W3 w) w') => addS h)
 have HW := Lib.hid hW0
 clear hW0
 go_region_held3 (fun w' => Below (w.heap.size + 2) (W3 w) w' ∧ (w'.cell? ⟨w.heap.size, 1, none⟩ = some (.string ⟨#[88]⟩) ∧ w'.cell? ⟨w.heap.size, 2, none⟩ = some (.string ⟨#[49]⟩)) ∧ (w'.cell? ⟨w.heap.size + 1, 0, none⟩ = some (.string ⟨#[]⟩) ∧ w'.cell? ⟨w.heap.size + 1, 1, none⟩ = some (.string ⟨#[]⟩) ∧ w'.cell? ⟨w.heap.size + 1, 2, none⟩ = some (.int .i64 0) ∧ w'.cell? ⟨w.heap.size + 1, 3, none⟩ = some (.int .i64 0) ∧ w'.cell? ⟨w.heap.size + 1, 4, none⟩ = some (.slice none 0 0) ∧ w'.cell? ⟨w.heap.size + 1, 5, none⟩ = some (.string ⟨#[]⟩) ∧ w'.cell? ⟨w.heap.size + 1, 6, none⟩ = some (.slice none 0 0)))
  (first | assumption | (refine HS.out _ ?_; repeat (first | exact h2 | (with_reducible refine Below.setCell ?_ (by simp) _) | (with_reducible refine below_drew ?_) | (with_reducible refine addS_alloc (by omega) ?_ _) | refine addS_step (by omega) b3 (by simp) ?_ | refine addS_step (by omega) b2 (by simp) ?_)))
  (first
   | (go_at_call 28; refine (awake1_any _).mono ?_; rintro e w2 ⟨rfl, b2⟩)
   | (go_at_call 93; refine (laid_any 200 ⟨#[]⟩ ⟨#[]⟩ none _ 0 _ [] [(⟨#[88]⟩, ⟨#[49]⟩)] _ (Row.nil _ _) (by first | exact row_newc _ #[.string ⟨#[88]⟩, .string ⟨#[49]⟩] 59 (by simp) | exact Row.drew (row_newc _ #[.string ⟨#[88]⟩, .string ⟨#[49]⟩] 59 (by simp)) | exact (Row.drew (row_newc _ #[.string ⟨#[88]⟩, .string ⟨#[49]⟩] 59 (by simp))).below b2 | exact (row_newc _ #[.string ⟨#[88]⟩, .string ⟨#[49]⟩] 59 (by simp)).below b2) (by decide) (by decide)).mono ?_; rintro e w3 ⟨A3, c3, rfl, o3, b3⟩; have hb9 : Below (w.heap.size + 3) (W3 w) w3 := (by refine addS_step (by omega) b3 (by simp) ?_; repeat (first | exact h3 | (with_reducible refine below_drew ?_) | (with_reducible refine addS_alloc (by omega) ?_ _) | refine addS_step (by omega) b2 (by simp) ?_)); obtain ⟨r0, s0⟩ := W3_res hb9 0; obtain ⟨r1, s1⟩ := W3_res hb9 1; obtain ⟨r2, s2⟩ := W3_res hb9 2; obtain ⟨r3, s3⟩ := W3_res hb9 3; have hb9z : w.heap.size + 1 + 1 < w3.heap.size := (by have := hb9.size; rw [W3_size] at this; omega)))
 all_goals
  have HBW := Lib.hid ((W3_below w).trans (hb9.mono (by omega)))
  have hz : w.heap.size + 3 ≤ w2.heap.size := by
   have e1 := b2.size
   have e2 := h3.size
   rw [W3_size] at e2
   simp at e1
   omega
  have o4 := own_less (b' := w.heap.size + 3) o3 (by first | exact hz | (simp; omega))
  have HO := Lib.hid o4
  clear o3 o4 b2 h2 h3 b3 hb9 q0 q1 q2 q3 q4 q5 q6 m1 m2 hz
  go_wp2
  exact bodyPost_ret (v := .agg #[.int .i64 200, .string ⟨#[]⟩, .slice A3 1 c3, .string ⟨#[]⟩]) (by simp [results, Tryz.results56, go_sem, r0, r1, r2, r3]) rfl ⟨A3, c3, rfl, own_less (ownsRow_setCell_below (ownsRow_setCell_below (ownsRow_setCell_below (ownsRow_setCell_below HO.out (by simp) _) (by simp) _) (by simp) _) (by simp) _) (by omega), by (repeat (first | (with_reducible refine Below.setCell ?_ (by simp; omega) _) | (with_reducible refine Below.setCell ?_ (by simp) _))); exact HBW.out⟩
theorem run2_one (w : World) (b1 b2 b3 : Nat) (h1 : w.cell? ⟨b1, 0, none⟩ = some (.func (.func 56) #[] #[]))
  (m0 : w.cell? ⟨b2, 0, none⟩ = some (.int .i64 1)) (m1 : w.cell? ⟨b2, 1, none⟩ = some (.string ⟨#[88]⟩)) (m2 : w.cell? ⟨b2, 2, none⟩ = some (.string ⟨#[49]⟩)) (m3 : w.cell? ⟨b2, 3, none⟩ = some (.slice none 0 0)) (m4 : w.cell? ⟨b2, 4, none⟩ = some (.int .i64 0))
  (h3 : w.cell? ⟨b3, 0, none⟩ = some (.func (.func 28) #[] #[])) (l1 : b1 < w.heap.size) (l2 : b2 < w.heap.size) (l3 : b3 < w.heap.size) :
  Calls Tryz.prog 36 #[.agg #[.string ⟨#[]⟩, .string ⟨#[]⟩, .int .i64 0, .int .i64 0, .slice none 0 0, .string ⟨#[]⟩, .slice none 0 0], .pointer (some ⟨b1, 0, none⟩), .pointer (some ⟨b2, 0, none⟩), .pointer (some ⟨b3, 0, none⟩)] w (GivesRs w 200 ⟨#[]⟩ [(⟨#[88]⟩, ⟨#[49]⟩)] ⟨#[]⟩) := by
 have HA := Lib.hid add_one
 go_enter Tryz.func36, Tryz.ntmps36
 go_wp2_with fail
 refine (HA.out _).mono ?_
 rintro e w1 ⟨A1, c1, rfl, ow, hb⟩
 have hb' : Below (w.heap.size + 2) ((w.alloc (.cells #[.string ⟨#[]⟩, .string ⟨#[]⟩, .int .i64 0, .int .i64 0, .slice none 0 0, .string ⟨#[]⟩, .slice none 0 0] 27)).alloc (.cells #[.int .i64 0, .string ⟨#[]⟩, .slice none 0 0, .string ⟨#[]⟩] 29)) w1 := by simpa using hb
 have HO := Lib.hid (own_less (b' := w.heap.size + 2) ow (by simp))
 have K1 : ∀ j, w1.cell? ⟨w.heap.size + 1, j, none⟩ = (#[.int .i64 0, .string ⟨#[]⟩, .slice none 0 0, .string ⟨#[]⟩] : Array Value)[j]? ∧ w1.frozen? ⟨w.heap.size + 1, j, none⟩ = false := fun j => by
  refine ⟨?_, ?_⟩
  ·rw [hb'.cell (p := ⟨w.heap.size + 1, j, none⟩) (by simp)]; exact World.cell?_alloc_at _ _ _ _ (by simp)
  ·rw [hb'.frozen (p := ⟨w.heap.size + 1, j, none⟩) (by simp)]; exact World.frozen?_alloc_at _ _ _ _ (by simp)
 obtain ⟨j0, f0⟩ := K1 0
 obtain ⟨j1, f1⟩ := K1 1
 obtain ⟨j2, f2⟩ := K1 2
 obtain ⟨j3, f3⟩ := K1 3
 have hz1 : w.heap.size + 1 < w1.heap.size := by have := hb'.size; simp at this; omega
 have HBW := Lib.hid (show Below w.heap.size w w1 from (((Below.refl _ w).alloc (Nat.le_refl _) _).alloc (by simp) _).trans (hb'.mono (by omega)))
 clear ow hb hb' K1
 go_wp2
 exact bodyPost_ret (v := .agg #[.int .i64 200, .string ⟨#[]⟩, .slice A1 1 c1, .string ⟨#[]⟩]) (by simp [results, Tryz.results36, go_sem, j0, j1, j2, j3]) rfl ⟨A1, c1, rfl, own_less (ownsRow_setCell_below (ownsRow_setCell_below (ownsRow_setCell_below (ownsRow_setCell_below HO.out (by simp) _) (by simp) _) (by simp) _) (by simp) _) (by omega), by (repeat (first | (with_reducible refine Below.setCell ?_ (by simp; omega) _) | (with_reducible refine Below.setCell ?_ (by simp) _))); exact HBW.out⟩
def W2 (w : World) : World := (w.alloc (.cells #[.string ⟨#[]⟩, .string ⟨#[]⟩, .int .i64 0, .int .i64 0, .slice none 0 0, .string ⟨#[]⟩, .slice none 0 0] 27)).alloc (.cells #[.int .i64 0, .string ⟨#[]⟩, .slice none 0 0, .string ⟨#[]⟩] 29)
theorem W2_size (w : World) : (W2 w).heap.size = w.heap.size + 2 := by simp [W2]
theorem W2_below (w : World) : Below w.heap.size w (W2 w) := ((Below.refl _ w).alloc (Nat.le_refl _) _).alloc (by simp) _
theorem W2_req {w w' : World} (h : Below (w.heap.size + 2) (W2 w) w') (j : Nat) : w'.cell? ⟨w.heap.size, j, none⟩ = reqCells[j]? := by
 rw [h.cell (p := ⟨w.heap.size, j, none⟩) (by simp)]
 unfold W2
 rw [World.cell?_alloc_lt _ _ _ (by simp), World.cell?_alloc_new]
 rfl
theorem W2_res {w w' : World} (h : Below (w.heap.size + 2) (W2 w) w') (j : Nat) : w'.cell? ⟨w.heap.size + 1, j, none⟩ = (#[.int .i64 0, .string ⟨#[]⟩, .slice none 0 0, .string ⟨#[]⟩] : Array Value)[j]? ∧ w'.frozen? ⟨w.heap.size + 1, j, none⟩ = false := by
 refine ⟨?_, ?_⟩
 ·rw [h.cell (p := ⟨w.heap.size + 1, j, none⟩) (by simp)]
  exact World.cell?_alloc_at _ _ _ _ (by simp)
 ·rw [h.frozen (p := ⟨w.heap.size + 1, j, none⟩) (by simp)]
  exact World.frozen?_alloc_at _ _ _ _ (by simp)
theorem stp_alloc {n : Nat} {W w' : World} (hW : W.heap.size = n) (h : Below n W w') (o : Obj) : Below n W (w'.alloc o) := h.alloc (by have := h.size; omega) o
theorem stp_step {n m : Nat} {W w' w2 : World} (hW : W.heap.size = n) (h2 : Below m w' w2) (hm : m = w'.heap.size) (h : Below n W w') : Below n W w2 := h.trans (h2.mono (by have := h.size; omega))
def TwoF (n : Nat) (W : World) (F G x y : Value) (wx : World) : Prop := ∃ p q : Nat, x = .pointer (some ⟨p, 0, none⟩) ∧ y = .pointer (some ⟨q, 0, none⟩) ∧ wx.cell? ⟨p, 0, none⟩ = some F ∧ wx.cell? ⟨q, 0, none⟩ = some G ∧ (p < wx.heap.size ∧ q < wx.heap.size) ∧ Below n W wx
section
variable {n k : Nat} {W w2 : World} {F G : Value} {t u : TypeId}
theorem twoF_a (hW : W.heap.size = n) (h : Below n W w2) : TwoF n W F G (.pointer (some ⟨w2.heap.size + 1, 0, none⟩)) (.pointer (some ⟨w2.heap.size, 0, none⟩)) ((w2.alloc (.cells #[G] t)).alloc (.cells #[F] u)) :=
 ⟨_, _, rfl, rfl, by simp, by simp, ⟨by simp, by simp; omega⟩, stp_alloc hW (stp_alloc hW h _) _⟩
theorem twoF_b (hW : W.heap.size = n) (h : Below n W w2) : TwoF n W F G (.pointer (some ⟨w2.heap.size, 0, none⟩)) (.pointer (some ⟨w2.heap.size + 1, 0, none⟩)) ((w2.alloc (.cells #[F] t)).alloc (.cells #[G] u)) :=
 ⟨_, _, rfl, rfl, by simp, by simp, ⟨by simp; omega, by simp⟩, stp_alloc hW (stp_alloc hW h _) _⟩
theorem twoF_c (hW : W.heap.size = n) (h : Below n W w2) (hn : n ≤ k) (hk : k < w2.heap.size) {v : Value} (hx : w2.cell? ⟨k, 0, none⟩ = some v) : TwoF n W F G (.pointer (some ⟨k, 0, none⟩)) (.pointer (some ⟨w2.heap.size, 0, none⟩)) ((w2.setCell ⟨k, 0, none⟩ F).alloc (.cells #[G] u)) :=
 ⟨_, _, rfl, rfl, by rw [World.cell?_alloc_lt _ _ _ (by simpa using hk)]; exact World.cell?_setCell_same _ _ _ hx, World.cell?_alloc_at _ _ _ _ (by simp), ⟨by simp; omega, by simp⟩, stp_alloc hW (h.setCell hn _) _⟩
theorem twoF_d (hW : W.heap.size = n) (h : Below n W w2) (hn : n ≤ k) (hk : k < w2.heap.size) {v : Value} (hx : w2.cell? ⟨k, 0, none⟩ = some v) : TwoF n W F G (.pointer (some ⟨w2.heap.size, 0, none⟩)) (.pointer (some ⟨k, 0, none⟩)) ((w2.setCell ⟨k, 0, none⟩ G).alloc (.cells #[F] u)) :=
 ⟨_, _, rfl, rfl, World.cell?_alloc_at _ _ _ _ (by simp), by rw [World.cell?_alloc_lt _ _ _ (by simpa using hk)]; exact World.cell?_setCell_same _ _ _ hx, ⟨by simp, by simp; omega⟩, stp_alloc hW (h.setCell hn _) _⟩
theorem twoF_e (h : Below n W w2) (hn : n ≤ k) (hk : k + 1 < w2.heap.size) {v v' : Value} (hx : w2.cell? ⟨k, 0, none⟩ = some v) (hy : w2.cell? ⟨k + 1, 0, none⟩ = some v') : TwoF n W F G (.pointer (some ⟨k, 0, none⟩)) (.pointer (some ⟨k + 1, 0, none⟩)) ((w2.setCell ⟨k, 0, none⟩ F).setCell ⟨k + 1, 0, none⟩ G) :=
 ⟨_, _, rfl, rfl, by rw [World.cell?_setCell_far _ _ _ _ (by simp)]; exact World.cell?_setCell_same _ _ _ hx, World.cell?_setCell_same (u := v') _ _ _ (by rw [World.cell?_setCell_far _ _ _ _ (by simp)]; exact hy), ⟨by simp; omega, by simp; omega⟩, (h.setCell hn _).setCell (Nat.le_succ_of_le hn) _⟩
theorem twoF_f (h : Below n W w2) (hn : n ≤ k) (hk : k + 1 < w2.heap.size) {v v' : Value} (hx : w2.cell? ⟨k, 0, none⟩ = some v) (hy : w2.cell? ⟨k + 1, 0, none⟩ = some v') : TwoF n W F G (.pointer (some ⟨k + 1, 0, none⟩)) (.pointer (some ⟨k, 0, none⟩)) ((w2.setCell ⟨k + 1, 0, none⟩ F).setCell ⟨k, 0, none⟩ G) :=
 ⟨_, _, rfl, rfl, by rw [World.cell?_setCell_far _ _ _ _ (by simp)]; exact World.cell?_setCell_same _ _ _ hy, World.cell?_setCell_same (u := v) _ _ _ (by rw [World.cell?_setCell_far _ _ _ _ (by simp)]; exact hx), ⟨by simp; omega, by simp; omega⟩, (h.setCell (Nat.le_succ_of_le hn) _).setCell hn _⟩
end
theorem fresh_one {n : Nat} {W w2 : World} {t : TypeId} (bw : Below n (W.alloc (.cells #[.nilFunc] t)).drew w2) (hn : n = (W.alloc (.cells #[.nilFunc] t)).heap.size) : w2.cell? ⟨W.heap.size, 0, none⟩ = some .nilFunc ∧ w2.frozen? ⟨W.heap.size, 0, none⟩ = false := by
 subst hn
 refine ⟨?_, ?_⟩
 ·rw [bw.cell (p := ⟨W.heap.size, 0, none⟩) (by simp)]
  show (W.alloc (.cells #[.nilFunc] t)).cell? _ = _
  simp
 ·rw [bw.frozen (p := ⟨W.heap.size, 0, none⟩) (by simp)]
  show (W.alloc (.cells #[.nilFunc] t)).frozen? _ = _
  simp
theorem fresh_two {n : Nat} {W w2 : World} {t u : TypeId} (bw : Below n ((W.alloc (.cells #[.nilFunc] t)).alloc (.cells #[.nilFunc] u)).drew w2) (hn : n = ((W.alloc (.cells #[.nilFunc] t)).alloc (.cells #[.nilFunc] u)).heap.size) : w2.cell? ⟨W.heap.size, 0, none⟩ = some .nilFunc ∧ w2.frozen? ⟨W.heap.size, 0, none⟩ = false ∧ w2.cell? ⟨W.heap.size + 1, 0, none⟩ = some .nilFunc ∧ w2.frozen? ⟨W.heap.size + 1, 0, none⟩ = false := by
 subst hn
 refine ⟨?_, ?_, ?_, ?_⟩
 ·rw [bw.cell (p := ⟨W.heap.size, 0, none⟩) (by simp; omega)]
  show ((W.alloc (.cells #[.nilFunc] t)).alloc (.cells #[.nilFunc] u)).cell? _ = _
  rw [World.cell?_alloc_lt _ _ _ (by simp)]; simp
 ·rw [bw.frozen (p := ⟨W.heap.size, 0, none⟩) (by simp; omega)]
  show ((W.alloc (.cells #[.nilFunc] t)).alloc (.cells #[.nilFunc] u)).frozen? _ = _
  simp
 ·rw [bw.cell (p := ⟨W.heap.size + 1, 0, none⟩) (by simp)]
  show ((W.alloc (.cells #[.nilFunc] t)).alloc (.cells #[.nilFunc] u)).cell? _ = _
  exact World.cell?_alloc_at _ _ _ _ (by simp)
 ·rw [bw.frozen (p := ⟨W.heap.size + 1, 0, none⟩) (by simp)]
  show ((W.alloc (.cells #[.nilFunc] t)).alloc (.cells #[.nilFunc] u)).frozen? _ = _
  exact World.frozen?_alloc_at _ _ _ _ (by simp)
def RunX (w : World) (f : Value) (wr : World) : Prop := ∃ b1 b2 b3 : Nat, f = .func (.func 36) #[] #[.pointer (some ⟨b1, 0, none⟩), .pointer (some ⟨b2, 0, none⟩), .pointer (some ⟨b3, 0, none⟩)] ∧
 wr.cell? ⟨b1, 0, none⟩ = some (.func (.func 56) #[] #[]) ∧
 (wr.cell? ⟨b2, 0, none⟩ = some (.int .i64 1) ∧ wr.cell? ⟨b2, 1, none⟩ = some (.string ⟨#[88]⟩) ∧ wr.cell? ⟨b2, 2, none⟩ = some (.string ⟨#[49]⟩) ∧ wr.cell? ⟨b2, 3, none⟩ = some (.slice none 0 0) ∧ wr.cell? ⟨b2, 4, none⟩ = some (.int .i64 0)) ∧
 wr.cell? ⟨b3, 0, none⟩ = some (.func (.func 28) #[] #[]) ∧ (b1 < wr.heap.size ∧ b2 < wr.heap.size ∧ b3 < wr.heap.size) ∧
 Below (w.heap.size + 2) (W2 w) wr
set_option maxRecDepth 20000 in
set_option maxHeartbeats 4000000 in
theorem Run_one (w : World) (g : Nat) (hg : Glob w) (hl : g < w.heap.size) (m0 : w.cell? ⟨g, 0, none⟩ = some (.int .i64 1)) (m1 : w.cell? ⟨g, 1, none⟩ = some (.string ⟨#[88]⟩)) (m2 : w.cell? ⟨g, 2, none⟩ = some (.string ⟨#[49]⟩)) (m3 : w.cell? ⟨g, 3, none⟩ = some (.slice none 0 0)) (m4 : w.cell? ⟨g, 4, none⟩ = some (.int .i64 0)) :
  Calls Tryz.prog 15 #[.slice (some ⟨g, 0, none⟩) 1 1, .agg #[.string ⟨#[]⟩, .string ⟨#[]⟩, .int .i64 0, .int .i64 0, .slice none 0 0, .string ⟨#[]⟩, .slice none 0 0], .func (.func 28) #[] #[]] w (GivesRs w 200 ⟨#[]⟩ [(⟨#[88]⟩, ⟨#[49]⟩)] ⟨#[]⟩) := by
 have hmf : ∀ (fn : Fn) (first cap : Array Value) (w : World), (Instr.makeFunc fn first cap).run Tryz.prog w = .ok (.func fn first cap) w := fun _ _ _ _ => rfl
 have hfe : ∀ w : World, (binOp .eql 53 (.func (.func 28) #[] #[]) Value.nilFunc).run Tryz.prog w = .ok (.bool false) w := fun _ => by kernel_rfl
 have HCK := Lib.hid Check_one
 have HR2 := Lib.hid run2_one
 have HWK := Lib.hid works_any
 go_enter Tryz.func15, Tryz.ntmps15
 go_wp2_with fail
 go_loopw [7, 8] (fun f i wr => (f = .func (.func 28) #[] #[] ∧ i = .int .i64 0 ∧ wr = (w.alloc (.cells #[.string ⟨#[]⟩, .string ⟨#[]⟩, .int .i64 0, .int .i64 0, .slice none 0 0, .string ⟨#[]⟩, .slice none 0 0] 27)).alloc (.cells #[.int .i64 0, .string ⟨#[]⟩, .slice none 0 0, .string ⟨#[]⟩] 29)) ∨ (i = .int .i64 (-1) ∧ RunX w f wr)) (fun _ i _ => (RowKit.intOf i + 1).toNat)
 case atStart => exact .inl ⟨rfl, rfl, rfl⟩
 case round =>
  rcases hrel with ⟨rfl, rfl, rfl⟩ | ⟨rfl, hx⟩
  ·have hgW := hg.beyond (W2_below w)
   go_wp2_with fail
   refine (HCK.out _ (Glob.beyond hgW ((Below.refl _ (W2 w)).alloc (Nat.le_refl _) _))).mono ?_
   rintro e w1 ⟨rfl, b1⟩
   have b1' : Below (w.heap.size + 3) ((W2 w).alloc (.cells #[.int .i64 1, .string ⟨#[88]⟩, .string ⟨#[49]⟩, .slice none 0 0, .int .i64 0] 24)) w1 := by
    have := W2_size w
    simpa [W2] using b1
   clear b1
   have hMW : ((W2 w).alloc (.cells #[.int .i64 1, .string ⟨#[88]⟩, .string ⟨#[49]⟩, .slice none 0 0, .int .i64 0] 24)).heap.size = w.heap.size + 3 := by simp [W2]
   have hMid : ∀ w' j, Below (w.heap.size + 3) ((W2 w).alloc (.cells #[.int .i64 1, .string ⟨#[88]⟩, .string ⟨#[49]⟩, .slice none 0 0, .int .i64 0] 24)) w' → w'.cell? ⟨w.heap.size + 1 + 1, j, none⟩ = (#[.int .i64 1, .string ⟨#[88]⟩, .string ⟨#[49]⟩, .slice none 0 0, .int .i64 0] : Array Value)[j]? := fun w' j h => by
    rw [h.cell (p := ⟨w.heap.size + 1 + 1, j, none⟩) (by simp)]
    exact World.cell?_alloc_at _ _ _ _ (by rw [W2_size])
   have hM2 : Below (w.heap.size + 2) (W2 w) ((W2 w).alloc (.cells #[.int .i64 1, .string ⟨#[88]⟩, .string ⟨#[49]⟩, .slice none 0 0, .int .i64 0] 24)) := (Below.refl _ _).alloc (by rw [W2_size]; omega) _
   have HM2 := Lib.hid hM2
   have HMID := Lib.hid hMid
   have HMW := Lib.hid hMW
   clear hM2 hMid hMW
   generalize (W2 w).alloc (.cells #[.int .i64 1, .string ⟨#[88]⟩, .string ⟨#[49]⟩, .slice none 0 0, .int .i64 0] 24) = MW at *
   have hsz1 : w.heap.size + 3 ≤ w1.heap.size := by rw [← HMW.out]; exact b1'.size
   have hs1z : w.heap.size + 1 + 1 < w1.heap.size := by omega
   have hs1y : w.heap.size + 1 < w1.heap.size := by omega
   obtain ⟨kk, hkk⟩ : ∃ kk : Int, kk = 1 := ⟨_, rfl⟩
   obtain ⟨j, hj⟩ : ∃ j : Nat, j = 0 := ⟨_, rfl⟩
   have hw1 : IntKind.i64.wrap (kk - 1) = (j : Int) := by rw [hkk, hj]; rfl
   have hj0 : (0 : Int) ≤ (j : Int) := by omega
   have hj1 : (j : Int) < 10 := by omega
   have hj2 : j < 10 := by omega
   have HS := Lib.hid (fun (w' : World) (h : Below (w.heap.size + 3) MW w') => (⟨h, by rw [hkk]; exact HMID.out w' 0 h⟩ : Below (w.heap.size + 3) MW w' ∧ w'.cell? ⟨w.heap.size + 1 + 1, 0, none⟩ = some (.int .i64 kk)))
   have HWJ := Lib.hid (show ∀ w : World, Calls Tryz.prog 35 #[] w fun e w' => e = .returned (.slice (some ⟨w.heap.size, 0, none⟩) 10 10) ∧ w'.cell? ⟨w.heap.size, j * 3 + 2, none⟩ = some (.func (.func 56) #[] #[]) ∧ w.heap.size < w'.heap.size ∧ Below w.heap.size w w' by
    intro w
    rw [hj]
    exact (HWK.out w).mono fun e w' h => ⟨h.1, h.2.1.2.2, h.2.2⟩)
   clear hkk hj
   obtain ⟨_, d0⟩ := HS.out w1 b1'
   go_upto_region 9 with (fail)
   go_cut [10, 11] (fun x y wx => TwoF (w.heap.size + 3) MW (.func (.func 56) #[] #[]) (.func (.func 28) #[] #[]) x y wx)
   case first =>
    go_region_with (first
     | (go_at_call 35; refine (HWJ.out _).mono ?_; rintro e w2 ⟨rfl, k2, hs2, bw⟩; (have bq : Below w1.heap.size w1 w2 := (by refine stp_step (W := w1) rfl bw (by simp) ?_; repeat (first | exact Below.refl _ _ | (with_reducible refine below_drew ?_) | (with_reducible refine stp_alloc rfl ?_ _)))); (have bz : w.heap.size + 1 + 1 < w2.heap.size := Nat.lt_of_lt_of_le hs1z bq.size); (have by_ : w.heap.size + 1 < w2.heap.size := by omega); (have d1 : w2.cell? ⟨w.heap.size + 1 + 1, 0, none⟩ = some (.int .i64 kk) := (bq.cell hs1z).trans d0); (have bs : w1.heap.size < w2.heap.size := Nat.lt_of_le_of_lt (by first | (simp; done) | (simp; omega)) hs2); (have hb2 : Below (w.heap.size + 3) MW w2 := stp_step HMW.out bq rfl b1'); (first | (obtain ⟨x0, y0, x1, y1⟩ := fresh_two (W := w1) bw rfl; change w2.cell? ⟨w1.heap.size, 0, none⟩ = _ at x0; change w2.frozen? ⟨w1.heap.size, 0, none⟩ = _ at y0; change w2.cell? ⟨w1.heap.size + 1, 0, none⟩ = _ at x1; change w2.frozen? ⟨w1.heap.size + 1, 0, none⟩ = _ at y1; (have bt : w1.heap.size + 1 < w2.heap.size := Nat.lt_of_le_of_lt (by first | (simp; done) | (simp; omega)) hs2)) | (obtain ⟨x0, y0⟩ := fresh_one (W := w1) bw rfl; change w2.cell? ⟨w1.heap.size, 0, none⟩ = _ at x0; change w2.frozen? ⟨w1.heap.size, 0, none⟩ = _ at y0) | skip); (first | simp at k2 | skip); (first | simp at hs2 | skip)))
    all_goals
     go_wp2_with fail
     go_meet
     first
      | exact twoF_a HMW.out hb2
      | exact twoF_b HMW.out hb2
      | exact twoF_c HMW.out hb2 hsz1 bs x0
      | exact twoF_d HMW.out hb2 hsz1 bs x0
      | exact twoF_e hb2 hsz1 bt x0 x1
      | exact twoF_f hb2 hsz1 bt x0 x1
   obtain ⟨p, q, rfl, rfl, hp, hq, ⟨hpl, hql⟩, hbx⟩ := hcut
   have hR : RunX w (.func (.func 36) #[] #[.pointer (some ⟨p, 0, none⟩), .pointer (some ⟨w.heap.size + 1 + 1, 0, none⟩), .pointer (some ⟨q, 0, none⟩)]) wc :=
    ⟨p, w.heap.size + 1 + 1, q, rfl, hp, ⟨HMID.out wc 0 hbx, HMID.out wc 1 hbx, HMID.out wc 2 hbx, HMID.out wc 3 hbx, HMID.out wc 4 hbx⟩, hq, ⟨hpl, by have := hbx.size; rw [HMW.out] at this; omega, hql⟩, HM2.out.trans (hbx.mono (by omega))⟩
   have HR := Lib.hid hR
   clear hR hp hq hpl hql
   go_wp2
   go_roundw
   case rel => exact .inr ⟨rfl, HR.out⟩
   case measure => simp [RowKit.intOf]
  ·obtain ⟨b1, b2, b3, rfl, h1, ⟨n0, n1, n2, n3, n4⟩, h3, ⟨l1, l2, l3⟩, hb⟩ := hx
   have q0 := W2_req hb 0
   have q1 := W2_req hb 1
   have q2 := W2_req hb 2
   have q3 := W2_req hb 3
   have q4 := W2_req hb 4
   have q5 := W2_req hb 5
   have q6 := W2_req hb 6
   simp only [reqCells] at q0 q1 q2 q3 q4 q5 q6
   have HRR := Lib.hid (HR2.out wr b1 b2 b3 h1 n0 n1 n2 n3 n4 h3 l1 l2 l3)
   have hlw : w.heap.size < wr.heap.size := by have := hb.size; rw [W2_size] at this; omega
   go_wp2_with fail
   refine HRR.out.mono ?_
   rintro e w1 ⟨A1, c1, rfl, ow, hb1⟩
   have hb2 : Below (w.heap.size + 2) (W2 w) w1 := hb.trans (hb1.mono (by have := hb.size; rw [W2_size] at this; omega))
   have HO := Lib.hid (own_less (b' := w.heap.size + 2) ow (by have := hb.size; rw [W2_size] at this; omega))
   obtain ⟨j0, f0⟩ := W2_res hb2 0
   obtain ⟨j1, f1⟩ := W2_res hb2 1
   obtain ⟨j2, f2⟩ := W2_res hb2 2
   obtain ⟨j3, f3⟩ := W2_res hb2 3
   have hz1 : w.heap.size + 1 < w1.heap.size := by have := hb2.size; rw [W2_size] at this; omega
   have HBW := Lib.hid (show Below w.heap.size w w1 from (W2_below w).trans (hb2.mono (by omega)))
   clear ow hb hb1 hb2
   go_wp2
   exact bodyPost_ret (v := .agg #[.int .i64 200, .string ⟨#[]⟩, .slice A1 1 c1, .string ⟨#[]⟩]) (by simp [results, Tryz.results15, go_sem, j0, j1, j2, j3]) rfl ⟨A1, c1, rfl, own_less (ownsRow_setCell_below (ownsRow_setCell_below (ownsRow_setCell_below (ownsRow_setCell_below HO.out (by simp) _) (by simp) _) (by simp) _) (by simp) _) (by omega), by (repeat (first | (with_reducible refine Below.setCell ?_ (by simp; omega) _) | (with_reducible refine Below.setCell ?_ (by simp) _))); exact HBW.out⟩
end Go.Proofs.YtbnafbdhomdcoaaGreatDoor
