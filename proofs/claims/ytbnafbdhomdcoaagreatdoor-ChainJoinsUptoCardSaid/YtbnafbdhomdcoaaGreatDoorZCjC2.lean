/-
 CjC2, without what this claim does not reach.
-/
import Derived.Test.YtbnafbdhomdcoaaGreatDoorZCjC
import Derived.Test.YtbnafbdhomdcoaaGreatDoorZCjDj
namespace Go.Proofs.YtbnafbdhomdcoaaGreatDoor
open Go.RowKit Go.Shelf Go.Lib
theorem do_origin {m : Mid} (hk : m.kind = 8) (h0 : 0 < m.list.length) : DoAt m 71 := by
 refine ⟨fun args w => Tryz.call71 args w, fun D Pre n0 N T f w r A c FA fc TA tc hE hP hX hn0 hN8 hN hA hcap hF hT hm hr => ?_⟩
 have key : DoR m 71 r := by
  cases hfr : fromP m r with
  | none => exact origin_pass hk h0 hfr
  | some ov =>
   by_cases hmo : r.method = optsT
   ·cases haq : onlyP r.fields acrmN with
    | none => exact origin_allow hk h0 hfr (.inl haq)
    | some v => exact origin_flight hk h0 hfr haq hmo
   ·exact origin_allow hk h0 hfr (.inr hmo)
 exact key D Pre n0 N T f w A c FA fc TA tc hE hP hX hn0 hN8 hN hA hcap hF hT hm hr
theorem kind_cases {m : Mid} (h : kindOk m.kind = true) : m.kind = 1 ∨ m.kind = 2 ∨ m.kind = 3 ∨ m.kind = 4 ∨ m.kind = 5 ∨ m.kind = 6 ∨ m.kind = 7 ∨ m.kind = 8 ∨ m.kind = 9 ∨ m.kind = 10 := by
 unfold kindOk at h
 simp at h
 omega
theorem do_table {m : Mid} (h : checkM m = true) : ∃ dg, workC[(m.kind - 1).toNat * 3 + 2]? = some (.func (.func dg) #[] #[]) ∧ DoAt m dg := by
 unfold checkM at h
 rw [Bool.and_eq_true, Bool.and_eq_true] at h
 obtain ⟨h1, _, h3⟩ := h
 rcases kind_cases h1 with hk | hk | hk | hk | hk | hk | hk | hk | hk | hk
 ·exact ⟨_, by rw [hk]; rfl, do_add hk⟩
 ·exact ⟨_, by rw [hk]; rfl, do_set hk⟩
 ·exact ⟨_, by rw [hk]; rfl, do_drop hk⟩
 ·exact ⟨_, by rw [hk]; rfl, do_methods hk⟩
 ·exact ⟨_, by rw [hk]; rfl, do_body hk⟩
 ·refine ⟨_, by rw [hk]; rfl, do_strip hk ?_⟩
  unfold rightM at h3
  rw [hk] at h3
  simpa using h3
 ·refine ⟨_, by rw [hk]; rfl, do_basic hk ?_⟩
  unfold rightM at h3
  rw [hk] at h3
  simp at h3
  exact h3.2.1
 ·refine ⟨_, by rw [hk]; rfl, do_origin hk ?_⟩
  unfold rightM at h3
  rw [hk] at h3
  simp at h3
  exact h3.2.1
 ·exact ⟨_, by rw [hk]; rfl, do_cache hk⟩
 ·exact ⟨_, by rw [hk]; rfl, do_host hk⟩
set_option maxRecDepth 20000 in
theorem Check_no (m : Mid) (A : Option Addr) (c : Nat) (w : World) (hk : kindOk m.kind = false) :
  Calls Tryz.prog 34 #[midV m A c] w fun e w' => e = .returned (.int .i64 190) ∧ Below w.heap.size w w' := by
 have HW := Lib.hid works_all
 have hkk : m.kind < 1 ∨ ¬ m.kind < 1 ∧ 10 < m.kind := by
  unfold kindOk at hk
  simp at hk
  omega
 clear hk
 unfold midV
 rcases hkk with h | ⟨h0, h⟩
 ·have h1 : decide (m.kind < 1) = true := decide_eq_true h
  go_enter Tryz.func34, Tryz.ntmps34
  go_wp2_with fail
  refine (HW.out _).mono ?_
  rintro e w1 ⟨rfl, hw1⟩
  have hb : Below w.heap.size w w1 := by rw [hw1]; exact ((Below.refl _ w).alloc (Nat.le_refl _) _).alloc (by simp) _
  have c0 : w1.cell? ⟨w.heap.size, 0, none⟩ = some (.int .i64 m.kind) := by rw [hw1, World.cell?_alloc_lt _ _ _ (by simp)]; simp
  clear hw1
  go_wp2
  go_ret
  exact ⟨rfl, hb⟩
 ·have h1 : decide (m.kind < 1) = false := decide_eq_false h0
  have h2 : decide (10 < m.kind) = true := decide_eq_true h
  go_enter Tryz.func34, Tryz.ntmps34
  go_wp2_with fail
  refine (HW.out _).mono ?_
  rintro e w1 ⟨rfl, hw1⟩
  have hb : Below w.heap.size w w1 := by rw [hw1]; exact ((Below.refl _ w).alloc (Nat.le_refl _) _).alloc (by simp) _
  have c0 : w1.cell? ⟨w.heap.size, 0, none⟩ = some (.int .i64 m.kind) := by rw [hw1, World.cell?_alloc_lt _ _ _ (by simp)]; simp
  clear hw1
  go_wp2
  go_ret
  exact ⟨rfl, hb⟩
theorem bare_at {m : Mid} {t1 t2 t3 t4 : Bool} (h1 : useA m.kind = t1) (h2 : useV m.kind = t2) (h3 : useL m.kind = t3) (h4 : useN m.kind = t4) (hk : kindOk m.kind = true) : (bareB t1 t2 t3 t4 m && rightM m) = checkM m := by
 unfold checkM bareM
 rw [h1, h2, h3, h4, hk, Bool.true_and]
 rfl
theorem Check_any (m : Mid) (A : Option Addr) (c : Nat) (w : World) (hr : Row w A (m.list.map .string)) (hc : m.list.length ≤ c) (hm : FitM m) (hg : GlobC w) :
  Calls Tryz.prog 34 #[midV m A c] w fun e w' => e = .returned (.int .i64 (checkN (checkM m))) ∧ Below w.heap.size w w' := by
 cases hko : kindOk m.kind
 ·refine (Check_no m A c w hko).mono fun e w' h => ⟨?_, h.2⟩
  rw [h.1]
  have : checkM m = false := by unfold checkM; rw [hko]; rfl
  rw [this]
  rfl
 ·have fin : ∀ {t1 t2 t3 t4 : Bool}, useA m.kind = t1 → useV m.kind = t2 → useL m.kind = t3 → useN m.kind = t4 →
    Calls Tryz.prog 34 #[midV m A c] w (fun e w' => e = .returned (.int .i64 (checkN (bareB t1 t2 t3 t4 m && rightM m))) ∧ Below w.heap.size w w') →
    Calls Tryz.prog 34 #[midV m A c] w fun e w' => e = .returned (.int .i64 (checkN (checkM m))) ∧ Below w.heap.size w w' := fun h1 h2 h3 h4 h => h.mono fun e w' g => ⟨by rw [g.1, bare_at h1 h2 h3 h4 hko], g.2⟩
  rcases kind_cases hko with hk | hk | hk | hk | hk | hk | hk | hk | hk | hk
  ·exact fin (by rw [hk]; rfl) (by rw [hk]; rfl) (by rw [hk]; rfl) (by rw [hk]; rfl) (Check_core m A c w 0 (by decide) (by rw [hk]; rfl) 3 _ _ true true false false (rightM m) rfl rfl rfl (by kernel_rfl) (by kernel_rfl) (by kernel_rfl) (by kernel_rfl) (fun args w => Tryz.call53 args w)
    (fun W h => (works1_any m A c W hm (hg.beyond h).g).mono fun e w' g => ⟨by rw [g.1]; unfold rightM; rw [if_pos (.inl hk)], g.2⟩))
  ·exact fin (by rw [hk]; rfl) (by rw [hk]; rfl) (by rw [hk]; rfl) (by rw [hk]; rfl) (Check_core m A c w 1 (by decide) (by rw [hk]; rfl) 3 _ _ true true false false (rightM m) rfl rfl rfl (by kernel_rfl) (by kernel_rfl) (by kernel_rfl) (by kernel_rfl) (fun args w => Tryz.call53 args w)
    (fun W h => (works1_any m A c W hm (hg.beyond h).g).mono fun e w' g => ⟨by rw [g.1]; unfold rightM; rw [if_pos (.inr hk)], g.2⟩))
  ·exact fin (by rw [hk]; rfl) (by rw [hk]; rfl) (by rw [hk]; rfl) (by rw [hk]; rfl) (Check_core m A c w 2 (by decide) (by rw [hk]; rfl) 1 _ _ true false false false (rightM m) rfl rfl rfl (by kernel_rfl) (by kernel_rfl) (by kernel_rfl) (by kernel_rfl) (fun args w => Tryz.call58 args w)
    (fun W h => (works2_any m A c W hm (hg.beyond h).g).mono fun e w' g => ⟨by rw [g.1]; unfold rightM; rw [if_neg (by omega), if_pos hk], g.2⟩))
  ·exact fin (by rw [hk]; rfl) (by rw [hk]; rfl) (by rw [hk]; rfl) (by rw [hk]; rfl) (Check_core m A c w 3 (by decide) (by rw [hk]; rfl) 4 _ _ false false true false (rightM m) rfl rfl rfl (by kernel_rfl) (by kernel_rfl) (by kernel_rfl) (by kernel_rfl) (fun args w => Tryz.call60 args w)
    (fun W h => (works3_any m A c W (hr.below h) hc hm (hg.beyond h).g).mono fun e w' g => ⟨by rw [g.1]; unfold rightM; rw [if_neg (by omega), if_neg (by omega), if_pos hk], g.2⟩))
  ·exact fin (by rw [hk]; rfl) (by rw [hk]; rfl) (by rw [hk]; rfl) (by rw [hk]; rfl) (Check_core m A c w 4 (by decide) (by rw [hk]; rfl) 8 _ _ false false false true (rightM m) rfl rfl rfl (by kernel_rfl) (by kernel_rfl) (by kernel_rfl) (by kernel_rfl) (fun args w => Tryz.call63 args w)
    (fun W _ => (works4_any m A c W).mono fun e w' g => ⟨by rw [g.1]; unfold rightM; rw [if_neg (by omega), if_neg (by omega), if_neg (by omega), if_pos hk], g.2⟩))
  ·exact fin (by rw [hk]; rfl) (by rw [hk]; rfl) (by rw [hk]; rfl) (by rw [hk]; rfl) (Check_core m A c w 5 (by decide) (by rw [hk]; rfl) 2 _ _ false true false false (rightM m) rfl rfl rfl (by kernel_rfl) (by kernel_rfl) (by kernel_rfl) (by kernel_rfl) (fun args w => Tryz.call65 args w)
    (fun W h => (works5_any m A c W hm (hg.beyond h)).mono fun e w' g => ⟨by rw [g.1]; unfold rightM; rw [if_neg (by omega), if_neg (by omega), if_neg (by omega), if_neg (by omega), if_pos hk], g.2⟩))
  ·exact fin (by rw [hk]; rfl) (by rw [hk]; rfl) (by rw [hk]; rfl) (by rw [hk]; rfl) (Check_core m A c w 6 (by decide) (by rw [hk]; rfl) 5 _ _ true false true false (rightM m) rfl rfl rfl (by kernel_rfl) (by kernel_rfl) (by kernel_rfl) (by kernel_rfl) (fun args w => Tryz.call68 args w)
    (fun W h => (rightBasic_any m A c W (hr.below h) hm).mono fun e w' g => ⟨by rw [g.1]; unfold rightM; rw [if_neg (by omega), if_neg (by omega), if_neg (by omega), if_neg (by omega), if_neg (by omega), if_pos hk], g.2⟩))
  ·exact fin (by rw [hk]; rfl) (by rw [hk]; rfl) (by rw [hk]; rfl) (by rw [hk]; rfl) (Check_core m A c w 7 (by decide) (by rw [hk]; rfl) 14 _ _ false true true true (rightM m) rfl rfl rfl (by kernel_rfl) (by kernel_rfl) (by kernel_rfl) (by kernel_rfl) (fun args w => Tryz.call70 args w)
    (fun W h => (rightOrigin_any m A c W (hr.below h) hm (hg.beyond h).g).mono fun e w' g => ⟨by rw [g.1]; unfold rightM; rw [if_neg (by omega), if_neg (by omega), if_neg (by omega), if_neg (by omega), if_neg (by omega), if_neg (by omega), if_pos hk], g.2⟩))
  ·exact fin (by rw [hk]; rfl) (by rw [hk]; rfl) (by rw [hk]; rfl) (by rw [hk]; rfl) (Check_core m A c w 8 (by decide) (by rw [hk]; rfl) 2 _ _ false true false false (rightM m) rfl rfl rfl (by kernel_rfl) (by kernel_rfl) (by kernel_rfl) (by kernel_rfl) (fun args w => Tryz.call72 args w)
    (fun W _ => (works6_any m A c W hm).mono fun e w' g => ⟨by rw [g.1]; unfold rightM; rw [if_neg (by omega), if_neg (by omega), if_neg (by omega), if_neg (by omega), if_neg (by omega), if_neg (by omega), if_neg (by omega), if_pos hk], g.2⟩))
  ·exact fin (by rw [hk]; rfl) (by rw [hk]; rfl) (by rw [hk]; rfl) (by rw [hk]; rfl) (Check_core m A c w 9 (by decide) (by rw [hk]; rfl) 4 _ _ false false true false (rightM m) rfl rfl rfl (by kernel_rfl) (by kernel_rfl) (by kernel_rfl) (by kernel_rfl) (fun args w => Tryz.call74 args w)
    (fun W h => (rightHosts_any m A c W (hr.below h) hm (hg.beyond h)).mono fun e w' g => ⟨by rw [g.1]; unfold rightM; rw [if_neg (by omega), if_neg (by omega), if_neg (by omega), if_neg (by omega), if_neg (by omega), if_neg (by omega), if_neg (by omega), if_neg (by omega)], g.2⟩))
end Go.Proofs.YtbnafbdhomdcoaaGreatDoor
