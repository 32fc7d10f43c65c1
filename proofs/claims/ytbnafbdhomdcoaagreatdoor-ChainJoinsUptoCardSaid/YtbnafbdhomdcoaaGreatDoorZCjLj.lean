/-
 CjLj, without what this claim does not reach.
-/
import Derived.Test.YtbnafbdhomdcoaaGreatDoorZCjLb
namespace Go.Proofs.YtbnafbdhomdcoaaGreatDoor
open Go.RowKit Go.Shelf Go.Lib
set_option maxRecDepth 20000 in
set_option maxHeartbeats 4000000 in
theorem nx_ChainJoins_2 (N : Nat) (w0 : World) (q4 q7 : Nat) (f : Value) (T : Ans) (ks : List Ma) (KA : Option Addr) (kc : Nat) (hg : GlobC w0) (hX : Nx noD yesW w0.heap.size N w0 f T) (hN8 : 8 ≤ N) (hN : N + 2 * ks.length ≤ 1099511627776)
  (hM : Row w0 KA (flatM ks)) (hO : ∀ y ∈ ks, Row w0 y.2.1 (y.1.list.map .string) ∧ y.1.list.length ≤ y.2.2 ∧ FitM y.1) (hll : ks.length ≤ 1048576)
  (hl : q4 < w0.heap.size ∧ q7 < w0.heap.size) (h4 : w0.cell? ⟨q4, 0, none⟩ = some (.slice KA ks.length kc)) (h7 : w0.cell? ⟨q7, 0, none⟩ = some f) :
  Nx noD yesW w0.heap.size (N + 2 * ks.length) w0 (.func (.func 18) #[] #[.pointer (some ⟨q4, 0, none⟩), .pointer (some ⟨q7, 0, none⟩)]) (Stretch (runT (ks.map (·.1)) T)) := by
 refine ⟨18, _, rfl, fun args w => Tryz.call18 args w, fun W r FA fc TA tc hk _ hF hT hr => ?_⟩
 have hE := env_all hg
 have HL := Lib.hid (show ∀ k, noD k → k < W.heap.size from fun _ h => h.elim)
 have HB0 := Lib.hid (Y2_below W (rqC r FA fc TA tc))
 have hkY : Keep noD w0 (Y2 W (rqC r FA fc TA tc)) := hk.step HB0.out
 have hff : ∃ g lb, f = .func (.func g) #[] lb := by
  obtain ⟨g, lb, e, _⟩ := hX
  exact ⟨g, lb, e⟩
 have HR := Lib.hid (Run_any ks KA kc noD yesW w0.heap.size N T f f false (Y2 W (rqC r FA fc TA tc)) r FA fc TA tc (.inr ⟨rfl, hff, rfl⟩) (hE.later hkY) trivial (hX.later hkY) hkY.size hN8 hN ((rowD_no hM).keep hkY) (fun y hy => ⟨(rowD_no (hO y hy).1).keep hkY, (hO y hy).2⟩) hll (hF.below HB0.out) (hT.below HB0.out) hr)
 have HN0 := Lib.hid hk.size
 have k4 := (hk.cell (p := ⟨q4, 0, none⟩) hl.1 (fun h => h)).trans h4
 have k7 := (hk.cell (p := ⟨q7, 0, none⟩) hl.2 (fun h => h)).trans h7
 have z4 : q4 < W.heap.size := Nat.lt_of_lt_of_le hl.1 hk.size
 have z7 : q7 < W.heap.size := Nat.lt_of_lt_of_le hl.2 hk.size
 obtain ⟨g, lb, rfl⟩ := hff
 clear hE hkY hg hX hN8 hN hM hO hll hl h4 h7 hk hF hT hr
 show Calls Tryz.prog 18 #[rqV r FA fc TA tc, .pointer (some ⟨q4, 0, none⟩), .pointer (some ⟨q7, 0, none⟩)] W (GivesX noD w0.heap.size (N + 2 * ks.length) (Stretch (runT (ks.map (·.1)) T) r) W)
 unfold rqV at *
 go_enter Tryz.func18, Tryz.ntmps18
 go_wp2_with fail
 refine HR.out.mono ?_
 rintro e w2 ⟨y, A1, c1, rfl, hrow, hfit, hTT, hk⟩
 obtain ⟨⟨⟨r0, r1, r2, r3⟩, f0, f1, f2, f3⟩, hz⟩ := Y2_resF HL.out hk
 have HE := Lib.hid (fin_wide (N := N + 2 * ks.length) (b := W.heap.size + 1) (R := Stretch (runT (ks.map (·.1)) T) r) (fun w3 => fun g1 g2 g3 => stretch_more g1 g2 g3) HN0.out HB0.out (Nat.le_succ _) (by rw [Y2_size]; omega) hrow hfit hTT hk (.int .i64 y.status) (.string y.reason) (.slice A1 y.fields.length c1) (.string y.body))
 clear hrow hfit hTT hk HR
 unfold rsV at *
 go_wp2
 exact bodyPost_ret (v := rsV y A1 c1) (by simp [results, Tryz.results18, go_sem, rsV, r0, r1, r2, r3]) rfl HE.out
structure JoinsW (w W : World) (ks : List Ma) (KA : Option Addr) (kc : Nat) (f : Value) (r : Rq) (FA : Option Addr) (fc : Nat) (TA : Option Addr) (tc : Nat) (x : Rs) (A : Option Addr) (c : Nat) : Prop where
 box : W.cell? ⟨w.heap.size, 0, none⟩ = some (.slice KA ks.length kc)
 ask : AskW (w.heap.size + 1) r FA fc TA tc x A c W
 fn : W.cell? ⟨w.heap.size + 2, 0, none⟩ = some f
 old : Below w.heap.size w W
 size : w.heap.size + 3 ≤ W.heap.size
theorem JoinsW.below {w W W' : World} {n : Nat} {ks : List Ma} {KA : Option Addr} {kc : Nat} {f : Value} {r : Rq} {FA : Option Addr} {fc : Nat} {TA : Option Addr} {tc : Nat} {x : Rs} {A : Option Addr} {c : Nat} (h : JoinsW w W ks KA kc f r FA fc TA tc x A c) (hb : Below n W W') (hn : w.heap.size + 3 ≤ n) : JoinsW w W' ks KA kc f r FA fc TA tc x A c :=
 ⟨(hb.cell (p := ⟨w.heap.size, 0, none⟩) (show w.heap.size < n by omega)).trans h.box, h.ask.below hb (by omega), (hb.cell (p := ⟨w.heap.size + 2, 0, none⟩) (show w.heap.size + 2 < n by omega)).trans h.fn, h.old.trans (hb.mono (by omega)), Nat.le_trans h.size hb.size⟩
theorem joins_new (w : World) (ks : List Ma) (KA : Option Addr) (kc : Nat) (f : Value) (r : Rq) (FA : Option Addr) (fc : Nat) (TA : Option Addr) (tc : Nat) (x : Rs) (A : Option Addr) (c : Nat) (s t u : TypeId) :
  JoinsW w (((w.alloc (.cells #[.slice KA ks.length kc] s)).alloc (.cells (askC r FA fc TA tc x A c) t)).alloc (.cells #[f] u)) ks KA kc f r FA fc TA tc x A c := by
 have h1 := ask_new (w.alloc (.cells #[.slice KA ks.length kc] s)) r FA fc TA tc x A c t
 have e1 : (w.alloc (.cells #[.slice KA ks.length kc] s)).heap.size = w.heap.size + 1 := by simp
 rw [e1] at h1
 refine ⟨?_, h1.below ((Below.refl (w.heap.size + 2) _).alloc (by simp) _) (by omega), World.cell?_alloc_at _ _ _ _ (by simp), (((Below.refl _ w).alloc (Nat.le_refl _) _).alloc (by simp) _).alloc (by simp; omega) _, by simp⟩
 rw [World.cell?_alloc_lt _ _ _ (by simp; omega), World.cell?_alloc_lt _ _ _ (by simp), World.cell?_alloc_new]
 rfl
theorem two_ab {w4 w6 w' : World} {a b : Array Value} {s t : TypeId} (hb : Below (w4.alloc (.cells a s)).heap.size (w4.alloc (.cells a s)) w6) (h : Below (w6.alloc (.cells b t)).heap.size (w6.alloc (.cells b t)) w') (j : Nat) : w'.cell? ⟨w4.heap.size, j, none⟩ = a[j]? ∧ w'.cell? ⟨w6.heap.size, j, none⟩ = b[j]? := by
 have h1 : w4.heap.size < w6.heap.size := by have := hb.size; simp at this; omega
 refine ⟨?_, ?_⟩
 ·rw [h.cell (p := ⟨w4.heap.size, j, none⟩) (by simp; omega), World.cell?_alloc_lt _ _ _ (by simpa using h1), hb.cell (p := ⟨w4.heap.size, j, none⟩) (by simp), World.cell?_alloc_new]
 ·rw [h.cell (p := ⟨w6.heap.size, j, none⟩) (by simp), World.cell?_alloc_new]
set_option maxRecDepth 20000 in
set_option maxHeartbeats 4000000 in
theorem ChainJoins_any (ls : List Ma) (MA : Option Addr) (mc : Nat) (ks : List Ma) (KA : Option Addr) (kc : Nat) (w : World) (r : Rq) (FA : Option Addr) (fc : Nat) (TA : Option Addr) (tc : Nat) (x : Rs) (A : Option Addr) (c : Nat)
  (hg : GlobC w) (hM : Row w MA (flatM ls)) (hO : ∀ y ∈ ls, Row w y.2.1 (y.1.list.map .string) ∧ y.1.list.length ≤ y.2.2 ∧ FitM y.1) (hll : ls.length ≤ 262144)
  (hMk : Row w KA (flatM ks)) (hOk : ∀ y ∈ ks, Row w y.2.1 (y.1.list.map .string) ∧ y.1.list.length ≤ y.2.2 ∧ FitM y.1) (hlk : ks.length ≤ 262144)
  (hF : Row w FA (flat r.fields)) (hT : Row w TA (flat r.trailers)) (hr : FitQ r) (hA : Row w A (flat x.fields)) (hx : FitS 1048576 x) :
  Calls Tryz.prog 5 #[.slice MA ls.length mc, .slice KA ks.length kc, .agg (askC r FA fc TA tc x A c)] w fun e w' => e = .returned (.bool true) ∧ Below w.heap.size w w' := by
 have hmf : ∀ (fn : Fn) (first cap : Array Value) (w : World), (Instr.makeFunc fn first cap).run Tryz.prog w = .ok (.func fn first cap) w := fun _ _ _ _ => rfl
 obtain ⟨i0, hi0, hz0, hz1, hz2⟩ := info_parts info_mid
 have HJ := joins_new w ks KA kc (.func (.func 17) #[] #[.pointer (some ⟨w.heap.size + 1, 0, none⟩)]) r FA fc TA tc x A c 32 52 53
 have HMM := Lib.hid (fun (W : World) (hb : Below w.heap.size w W) => hM.below hb)
 have HMK := Lib.hid (fun (W : World) (hb : Below w.heap.size w W) => hMk.below hb)
 have HOO := Lib.hid (fun (W : World) (hb : Below w.heap.size w W) y (hy : y ∈ ls) => (⟨(hO y hy).1.below hb, (hO y hy).2⟩ : Row W y.2.1 (y.1.list.map .string) ∧ y.1.list.length ≤ y.2.2 ∧ FitM y.1))
 have HOK := Lib.hid (fun (W : World) (hb : Below w.heap.size w W) y (hy : y ∈ ks) => (⟨(hOk y hy).1.below hb, (hOk y hy).2⟩ : Row W y.2.1 (y.1.list.map .string) ∧ y.1.list.length ≤ y.2.2 ∧ FitM y.1))
 have HFT := Lib.hid (fun (W : World) (hb : Below w.heap.size w W) => (⟨hF.below hb, hT.below hb⟩ : Row W FA (flat r.fields) ∧ Row W TA (flat r.trailers)))
 have HAA := Lib.hid (fun (W : World) (hb : Below w.heap.size w W) => hA.below hb)
 have HG := Lib.hid (fun (W : World) (hb : Below w.heap.size w W) => hg.beyond hb)
 have HX := Lib.hid hx
 have HR := Lib.hid hr
 clear hg hM hO hMk hOk hF hT hr hA hx
 unfold askC at *
 go_enter Tryz.func5, Tryz.ntmps5
 go_upto_region 2 with (fail)
 generalize (((w.alloc (.cells #[.slice KA ks.length kc] 32)).alloc (.cells _ 52)).alloc (.cells _ 53)) = W at HJ ⊢
 have HJ := Lib.hid HJ
 have hb0 := below_dr (Below.refl W.heap.size W)
 have hS0 : W.drew.cell? ⟨w.heap.size, 0, none⟩ = some (.slice KA ks.length kc) := (HJ.out.below hb0 HJ.out.size).box
 refine region_T (t := 5) (S := fun W => W.cell? ⟨w.heap.size, 0, none⟩ = some (.slice KA ks.length kc)) (by kernel_rfl) hS0 (fun hHeld => ?_)
 refine' anyT_take (i := 1) (v := _) rfl (by kernel_rfl) (by kernel_rfl) (by kernel_rfl) (by kernel_rfl) (by rfl) (fun _ _ _ h => h) (Or.inl ⟨by rfl, ?h1y⟩) hHeld ?h1r
 case h1y => (intro w hSw; (try dsimp only at hSw); (try simp only [List.getElem_toArray, List.getElem_cons_succ, List.getElem_cons_zero]); go_simp; try (with_reducible rfl))
 (try simp only [List.getElem_toArray, List.getElem_cons_succ, List.getElem_cons_zero, Act.put, List.setIfInBounds_toArray, List.set_cons_zero, List.set_cons_succ])
 refine' anyT_take (i := 3) (v := _) rfl (by kernel_rfl) (by kernel_rfl) (by kernel_rfl) (by kernel_rfl) (by rfl) (fun _ _ _ h => h) (Or.inl ⟨by rfl, ?h2y⟩) hHeld ?h2r
 case h2y => (intro w hSw; (try dsimp only at hSw); (try simp only [List.getElem_toArray, List.getElem_cons_succ, List.getElem_cons_zero]); go_simp; try (with_reducible rfl))
 (try simp only [List.getElem_toArray, List.getElem_cons_succ, List.getElem_cons_zero, Act.put, List.setIfInBounds_toArray, List.set_cons_zero, List.set_cons_succ])
 refine anyT_ready (rs := [0]) (by kernel_rfl) (by simp) ?_
 refine AllReadyT.cons rfl (fun K hK => ?_) AllReadyT.nil
 go_simp
 have hb1 : Below W.heap.size W (W.drew.alloc (.cells #[] 24)) := hb0.alloc (Nat.le_refl _) _
 have own0 : (W.drew.alloc (.cells #[] 24)).ownsRow W.heap.size 24 5 (.slice (some ⟨W.heap.size, 0, none⟩) 0 0) 0 [] := World.ownsRow_lit W.drew #[] 0 (Nat.le_refl _) (by unfold maxLen; omega) rfl
 have hS1 := (HJ.out.below hb1 HJ.out.size).box
 refine hK.out _ _ (.inr hS1) (fun _ => ?_)
 clear hK K hHeld hS0
 (try simp only [List.getElem_toArray, List.getElem_cons_succ, List.getElem_cons_zero, Act.put, List.setIfInBounds_toArray, List.set_cons_zero, List.set_cons_succ])
 refine anyT_ready (rs := [2]) (by kernel_rfl) (by simp) ?_
 refine AllReadyT.cons rfl (fun K hK => ?_) AllReadyT.nil
 refine step_append_any _ rfl (.tmp 12) (.tmp 13) 32 rfl W.heap.size 24 i0 (.agg #[.int .i64 0, .string ⟨#[]⟩, .string ⟨#[]⟩, .slice none 0 0, .int .i64 0]) 5 72 Tryz.underlying32 hi0 hz0 hz1 hz2 rfl (by decide) _ 0 [] rfl own0 _ MA ls.length mc (flatM ls) rfl (reads_of_row (HMM.out _ (HJ.out.old.trans (hb1.mono HJ.out.old.size))) (flatM_length ls) (by decide)) (flatM_oneCell ls) (by unfold maxLen; omega) (by omega) hb1.size ?_
 intro v1 w2 own1 hg1 _
 have hb2 : Below W.heap.size W w2 := hb1.grown hg1 hb1.size (own_lt own0)
 have hS2 := (HJ.out.below hb2 HJ.out.size).box
 refine hK.out _ _ (.inr hS2) (fun _ => ?_)
 clear hK K hg1 own0 hb1 hS1
 (try simp only [List.getElem_toArray, List.getElem_cons_succ, List.getElem_cons_zero, Act.put, List.setIfInBounds_toArray, List.set_cons_zero, List.set_cons_succ])
 refine anyT_ready (rs := [4]) (by kernel_rfl) (by simp) ?_
 refine AllReadyT.cons rfl (fun K hK => ?_) AllReadyT.nil
 refine step_append_any _ rfl (.tmp 14) (.tmp 15) 32 rfl W.heap.size 24 i0 (.agg #[.int .i64 0, .string ⟨#[]⟩, .string ⟨#[]⟩, .slice none 0 0, .int .i64 0]) 5 72 Tryz.underlying32 hi0 hz0 hz1 hz2 rfl (by decide) _ _ _ rfl own1 _ KA ks.length kc (flatM ks) rfl (reads_of_row (HMK.out _ (HJ.out.old.trans (hb2.mono HJ.out.old.size))) (flatM_length ks) (by decide)) (flatM_oneCell ks) (by unfold maxLen; omega) (by omega) hb2.size ?_
 intro v2 w3 own2 hg2 _
 have hb3 : Below W.heap.size W w3 := hb2.grown hg2 hb2.size (own_lt own1)
 have hS3 := (HJ.out.below hb3 HJ.out.size).box
 refine hK.out _ _ (.inr hS3) (fun _ => ?_)
 clear hK K hg2 own1 hb2 hS2
 have hov : w3.ownsRow W.heap.size 24 5 v2 (ls ++ ks).length (flatM (ls ++ ks)) := by
  have e1 : (ls ++ ks).length = 0 + ls.length + ks.length := by rw [List.length_append, Nat.zero_add]
  have e2 : flatM (ls ++ ks) = [] ++ flatM ls ++ flatM ks := by unfold flatM; rw [List.flatMap_append, List.nil_append]
  rw [e1, e2]
  exact own2
 clear own2
 obtain ⟨B, bc, rfl⟩ := own_slice hov
 have HB := Lib.hid (own_row hov)
 have HJ3 := Lib.hid (HJ.out.below hb3 HJ.out.size)
 have HL : Hid ((ls ++ ks).length ≤ 1048576) := Lib.hid (by rw [List.length_append]; omega)
 clear hov hb3 HJ hS3 hi0 hz0 hz1 hz2 hb0
 (try simp only [List.getElem_toArray, List.getElem_cons_succ, List.getElem_cons_zero, Act.put, List.setIfInBounds_toArray, List.set_cons_zero, List.set_cons_succ])
 refine anyT_ready (rs := [5]) (by kernel_rfl) (by simp) ?_
 refine AllReadyT.cons rfl (fun K hK => ?_) AllReadyT.nil
 (try go_simp)
 refine hK.out _ _ (.inl (by rfl)) (fun _ => ?_)
 clear hK K
 (try simp only [List.getElem_toArray, List.getElem_cons_succ, List.getElem_cons_zero, Act.put, List.setIfInBounds_toArray, List.set_cons_zero, List.set_cons_succ])
 refine anyT_done (by kernel_rfl) ?_ _
 have HN := Lib.hid (fun (W' : World) (hj : JoinsW w W' ks KA kc (.func (.func 17) #[] #[.pointer (some ⟨w.heap.size + 1, 0, none⟩)]) r FA fc TA tc x A c) => (show Nx noD yesW W'.heap.size 1048576 W' (.func (.func 17) #[] #[.pointer (some ⟨w.heap.size + 1, 0, none⟩)]) (lastT x A c) from by
  obtain ⟨_, _, _, _, _, _, _, k7, k8, k9, k10⟩ := hj.ask
  exact nx_ChainJoins_1 1048576 W' (w.heap.size + 1) x A c (HAA.out W' hj.old) HX.out (by have := hj.size; omega) k7 k8 k9 k10))
 have HR1 := Lib.hid (fun (W' : World) (hb : Below w3.heap.size w3 W') => (show Calls Tryz.prog 15 #[.slice B (ls ++ ks).length bc, rqV r FA fc TA tc, (.func (.func 17) #[] #[.pointer (some ⟨w.heap.size + 1, 0, none⟩)])] W' (GivesL 4194304 (runP (ls.map (·.1)) (runP (ks.map (·.1)) fun _ => x) r) W') from by
  have hj := HJ3.out.below hb HJ3.out.size
  have h := Run_last (ls ++ ks) B bc 1048576 x A c (.func (.func 17) #[] #[.pointer (some ⟨w.heap.size + 1, 0, none⟩)]) W' r FA fc TA tc (HG.out W' hj.old) (HN.out W' hj) (by decide) (by rw [List.length_append]; omega) (HB.out.below hb) (fun y hy => (List.mem_append.1 hy).elim (HOO.out W' hj.old y) (HOK.out W' hj.old y)) HL.out (HFT.out W' hj.old).1 (HFT.out W' hj.old).2 HR.out
  rw [List.map_append, runP_append] at h
  exact h.mono fun e w' g => g.more (by rw [List.length_append]; omega)))
 have HR2 := Lib.hid (fun (W' : World) (hb : Below w3.heap.size w3 W') => (show Calls Tryz.prog 15 #[.slice MA ls.length mc, rqV r FA fc TA tc, (.func (.func 18) #[] #[.pointer (some ⟨w.heap.size, 0, none⟩), .pointer (some ⟨w.heap.size + 2, 0, none⟩)])] W' (GivesL 4194304 (runP (ls.map (·.1)) (runP (ks.map (·.1)) fun _ => x) r) W') from by
  have hj := HJ3.out.below hb HJ3.out.size
  have hs := hj.size
  have hX2 := nx_ChainJoins_2 1048576 W' w.heap.size (w.heap.size + 2) (.func (.func 17) #[] #[.pointer (some ⟨w.heap.size + 1, 0, none⟩)]) (lastT x A c) ks KA kc (HG.out W' hj.old) (HN.out W' hj) (by decide) (by omega) (HMK.out W' hj.old) (HOK.out W' hj.old) (by omega) ⟨by omega, by omega⟩ hj.box hj.fn
  refine (Run_any ls MA mc noD yesW W'.heap.size (1048576 + 2 * ks.length) (Stretch (runT (ks.map (·.1)) (lastT x A c))) (.func (.func 18) #[] #[.pointer (some ⟨w.heap.size, 0, none⟩), .pointer (some ⟨w.heap.size + 2, 0, none⟩)]) (.func (.func 18) #[] #[.pointer (some ⟨w.heap.size, 0, none⟩), .pointer (some ⟨w.heap.size + 2, 0, none⟩)]) false W' r FA fc TA tc (.inr ⟨rfl, ⟨_, _, rfl⟩, rfl⟩) (env_all (HG.out W' hj.old)) trivial hX2 (Nat.le_refl _) (by omega) (by omega) (rowD_no (HMM.out W' hj.old)) (fun y hy => ⟨rowD_no (HOO.out W' hj.old y hy).1, (HOO.out W' hj.old y hy).2⟩) (by omega) (rowD_no (HFT.out W' hj.old).1) (rowD_no (HFT.out W' hj.old).2) HR.out).mono fun e w' g => ?_
  obtain ⟨A', c', h1, h2, h3, h4⟩ := g.last (F := runP (ks.map (·.1)) fun _ => x) (fun _ _ _ _ _ _ h => stretch_simple (fun _ => x) (fun _ _ _ _ _ _ h => h.1) _ h)
  exact ⟨A', c', h1, h2, h3.more (by omega), h4⟩))
 have HQ := Lib.hid (fun (W : World) (hb : Below w3.heap.size w3 W) => (HJ3.out.below hb HJ3.out.size))
 clear HR HX HAA HFT HN HOO HOK HMM HMK HB HL HJ3
 obtain ⟨y, hy⟩ : ∃ y, y = runP (ls.map (·.1)) (runP (ks.map (·.1)) fun _ => x) r := ⟨_, rfl⟩
 rw [← hy] at HR1 HR2
 clear hy
 rw [List.length_append] at HR1
 obtain ⟨s0, s1, s2, s3, s4, s5, s6, _, _, _, _⟩ := (HQ.out _ (Below.refl _ _)).ask
 have g0 := (HQ.out _ (Below.refl _ _)).fn
 have hz : w.heap.size + 3 ≤ w3.heap.size := (HQ.out _ (Below.refl _ _)).size
 (try simp only [List.length_append, Nat.zero_add])
 go_wp2_with fail
 refine (HR1.out _ (Below.refl _ _)).mono ?_
 rintro e w4 ⟨A4, c4, rfl, r4, f4, b4⟩
 clear s0 s1 s2 s3 s4 s5 s6 g0 hz
 obtain ⟨s0, s1, s2, s3, s4, s5, s6, _, _, _, _⟩ := (HQ.out _ b4).ask
 have hz : w.heap.size + 1 < w4.heap.size := by have := (HQ.out _ b4).size; omega
 have hz2 : w.heap.size < w4.heap.size := by omega
 have hz3 : w.heap.size + 2 < w4.heap.size := by have := (HQ.out _ b4).size; omega
 have HB4 := Lib.hid b4
 have HR4 := Lib.hid r4
 have HF4 := Lib.hid f4
 clear b4 r4 f4
 unfold rsV
 go_wp2_with fail
 have hb5 : Below w3.heap.size w3 (w4.alloc (.cells (rsCells y A4 c4) 29)) := HB4.out.alloc HB4.out.size _
 refine (HR2.out _ hb5).mono ?_
 rintro e w6 ⟨A6, c6, rfl, r6, f6, b6⟩
 have hz6 : w4.heap.size < w6.heap.size := by have := b6.size; simp at this; omega
 clear s0 s1 s2 s3 s4 s5 s6
 have HB7 := Lib.hid ((hb5.trans (b6.mono hb5.size)).alloc (show w3.heap.size ≤ w6.heap.size from (hb5.trans (b6.mono hb5.size)).size) (.cells (rsCells y A6 c6) 29))
 have HAB := Lib.hid (fun (w' : World) (h : Below (w6.alloc (.cells (rsCells y A6 c6) 29)).heap.size (w6.alloc (.cells (rsCells y A6 c6) 29)) w') => two_ab b6 h)
 have HR6 := Lib.hid (r6.below ((Below.refl _ w6).alloc (Nat.le_refl _) (.cells (rsCells y A6 c6) 29)))
 have HR47 := Lib.hid ((HR4.out.below ((Below.refl _ w4).alloc (Nat.le_refl _) (.cells (rsCells y A4 c4) 29))).below (b6.trans ((Below.refl _ w6).alloc (Nat.le_refl _) (.cells (rsCells y A6 c6) 29) |>.mono b6.size)))
 have hyl : y.fields.length ≤ 4398046511104 := Nat.le_trans HF4.out.many (by decide)
 clear r6 f6 b6 hb5 HR4 HF4 HB4 hz hz2 hz3
 have HC := Lib.hid (fun (W : World) (h : Below (w6.alloc (.cells (rsCells y A6 c6) 29)).heap.size (w6.alloc (.cells (rsCells y A6 c6) 29)) W) => (⟨⟨(HAB.out W h 0).1, (HAB.out W h 1).1, (HAB.out W h 2).1, (HAB.out W h 3).1⟩, (HAB.out W h 0).2, (HAB.out W h 1).2, (HAB.out W h 2).2, (HAB.out W h 3).2⟩ : (W.cell? ⟨w4.heap.size, 0, none⟩ = some (.int .i64 y.status) ∧ W.cell? ⟨w4.heap.size, 1, none⟩ = some (.string y.reason) ∧ W.cell? ⟨w4.heap.size, 2, none⟩ = some (.slice A4 y.fields.length c4) ∧ W.cell? ⟨w4.heap.size, 3, none⟩ = some (.string y.body)) ∧ (W.cell? ⟨w6.heap.size, 0, none⟩ = some (.int .i64 y.status) ∧ W.cell? ⟨w6.heap.size, 1, none⟩ = some (.string y.reason) ∧ W.cell? ⟨w6.heap.size, 2, none⟩ = some (.slice A6 y.fields.length c6) ∧ W.cell? ⟨w6.heap.size, 3, none⟩ = some (.string y.body))))
 unfold rsV
 go_wp2_with fail
 rw [show w6.alloc (.cells #[.int .i64 y.status, .string y.reason, .slice A6 y.fields.length c6, .string y.body] 29) = w6.alloc (.cells (rsCells y A6 c6) 29) from rfl]
 generalize w6.alloc (.cells (rsCells y A6 c6) 29) = W7 at *
 have HEND := Lib.hid (fun (W' : World) (h : Below W7.heap.size W7 W') => (HQ.out W' (HB7.out.trans (h.mono HB7.out.size))).old)
 clear HR1 HR2 HQ HAB
 have hb0 := below_dr (Below.refl W7.heap.size W7)
 have hS0 := HC.out _ hb0
 refine region_T (t := 7) (S := fun W => (W.cell? ⟨w4.heap.size, 0, none⟩ = some (.int .i64 y.status) ∧ W.cell? ⟨w4.heap.size, 1, none⟩ = some (.string y.reason) ∧ W.cell? ⟨w4.heap.size, 2, none⟩ = some (.slice A4 y.fields.length c4) ∧ W.cell? ⟨w4.heap.size, 3, none⟩ = some (.string y.body)) ∧ (W.cell? ⟨w6.heap.size, 0, none⟩ = some (.int .i64 y.status) ∧ W.cell? ⟨w6.heap.size, 1, none⟩ = some (.string y.reason) ∧ W.cell? ⟨w6.heap.size, 2, none⟩ = some (.slice A6 y.fields.length c6) ∧ W.cell? ⟨w6.heap.size, 3, none⟩ = some (.string y.body))) (by kernel_rfl) hS0 (fun hHeld => ?_)
 refine anyT_ready (rs := [0]) (by kernel_rfl) (by simp) ?_
 refine AllReadyT.cons rfl (fun K hK => ?_) AllReadyT.nil
 (try rw [if_pos (by rfl)])
 go_simp
 go_at_call 8
 refine (awake_any _ (HG.out _ (HEND.out _ hb0))).mono ?_
 rintro e w8 ⟨rfl, b8⟩
 have hb8 := hb0.trans (b8.mono hb0.size)
 clear b8
 (try go_wp2_with fail)
 refine hK.out _ _ (.inr (HC.out _ hb8)) (fun _ => ?_)
 clear hK K
 (try simp only [List.getElem_toArray, List.getElem_cons_succ, List.getElem_cons_zero, Act.put, List.setIfInBounds_toArray, List.set_cons_zero, List.set_cons_succ])
 refine' anyT_take (i := 1) (v := _) rfl (by kernel_rfl) (by kernel_rfl) (by kernel_rfl) (by kernel_rfl) (by rfl) (fun _ _ _ h => h) (Or.inl ⟨by rfl, ?h3y⟩) (HC.out _ hb8) ?h3r
 case h3y => (intro w hSw; (try dsimp only at hSw); (try simp only [List.getElem_toArray, List.getElem_cons_succ, List.getElem_cons_zero]); go_simp; try (with_reducible rfl))
 (try simp only [List.getElem_toArray, List.getElem_cons_succ, List.getElem_cons_zero, Act.put, List.setIfInBounds_toArray, List.set_cons_zero, List.set_cons_succ])
 refine' anyT_take (i := 2) (v := _) rfl (by kernel_rfl) (by kernel_rfl) (by kernel_rfl) (by kernel_rfl) (by rfl) (fun _ _ _ h => h) (Or.inl ⟨by rfl, ?h4y⟩) (HC.out _ hb8) ?h4r
 case h4y => (intro w hSw; (try dsimp only at hSw); obtain ⟨⟨s0, s1, s2, s3⟩, s4, s5, s6, s7⟩ := hSw; (try simp only [List.getElem_toArray, List.getElem_cons_succ, List.getElem_cons_zero]); go_simp; try (with_reducible rfl))
 (try simp only [List.getElem_toArray, List.getElem_cons_succ, List.getElem_cons_zero, Act.put, List.setIfInBounds_toArray, List.set_cons_zero, List.set_cons_succ])
 refine' anyT_take (i := 3) (v := _) rfl (by kernel_rfl) (by kernel_rfl) (by kernel_rfl) (by kernel_rfl) (by rfl) (fun _ _ _ h => h) (Or.inl ⟨by rfl, ?h5y⟩) (HC.out _ hb8) ?h5r
 case h5y => (intro w hSw; (try dsimp only at hSw); obtain ⟨⟨s0, s1, s2, s3⟩, s4, s5, s6, s7⟩ := hSw; (try simp only [List.getElem_toArray, List.getElem_cons_succ, List.getElem_cons_zero]); go_simp; try (with_reducible rfl))
 (try simp only [List.getElem_toArray, List.getElem_cons_succ, List.getElem_cons_zero, Act.put, List.setIfInBounds_toArray, List.set_cons_zero, List.set_cons_succ])
 refine anyT_ready (rs := [4]) (by kernel_rfl) (by simp) ?_
 refine AllReadyT.cons rfl (fun K hK => ?_) AllReadyT.nil
 (try rw [if_pos (by rfl)])
 go_simp
 go_at_call 19
 refine (response_any y A6 c6 _ (HR6.out.below hb8) hyl).mono ?_
 rintro e w9 ⟨A9, c9, rfl, o9, b9⟩
 have hb9 := hb8.trans (b9.mono hb8.size)
 have r9 := own_row o9
 clear o9
 clear b9
 (try go_wp2_with fail)
 refine hK.out _ _ (.inr (HC.out _ hb9)) (fun _ => ?_)
 clear hK K
 (try simp only [List.getElem_toArray, List.getElem_cons_succ, List.getElem_cons_zero, Act.put, List.setIfInBounds_toArray, List.set_cons_zero, List.set_cons_succ])
 refine anyT_ready (rs := [5]) (by kernel_rfl) (by simp) ?_
 refine AllReadyT.cons rfl (fun K hK => ?_) AllReadyT.nil
 (try rw [if_pos (by rfl)])
 go_simp
 go_at_call 14
 refine (sameR_any y A4 A9 c4 c9 _ (HR47.out.below hb9) r9 hyl).mono ?_
 rintro e w10 ⟨rfl, b10⟩
 have hb10 := hb9.trans (b10.mono hb9.size)
 clear b10
 (try go_wp2_with fail)
 refine hK.out _ _ (.inr (HC.out _ hb10)) (fun _ => ?_)
 clear hK K
 (try simp only [List.getElem_toArray, List.getElem_cons_succ, List.getElem_cons_zero, Act.put, List.setIfInBounds_toArray, List.set_cons_zero, List.set_cons_succ])
 refine' anyT_take (i := 6) (v := _) rfl (by kernel_rfl) (by kernel_rfl) (by kernel_rfl) (by kernel_rfl) (by rfl) (fun _ _ _ h => h) (Or.inl ⟨by rfl, ?h6y⟩) (HC.out _ hb10) ?h6r
 case h6y => (intro w hSw; (try dsimp only at hSw); (try simp only [List.getElem_toArray, List.getElem_cons_succ, List.getElem_cons_zero]); go_simp; try (with_reducible rfl))
 (try simp only [List.getElem_toArray, List.getElem_cons_succ, List.getElem_cons_zero, Act.put, List.setIfInBounds_toArray, List.set_cons_zero, List.set_cons_succ])
 refine anyT_ready (rs := [7]) (by kernel_rfl) (by simp) ?_
 refine AllReadyT.cons rfl (fun K hK => ?_) AllReadyT.nil
 (try go_simp)
 refine hK.out _ _ (.inl (by rfl)) (fun _ => ?_)
 clear hK K
 (try simp only [List.getElem_toArray, List.getElem_cons_succ, List.getElem_cons_zero, Act.put, List.setIfInBounds_toArray, List.set_cons_zero, List.set_cons_succ])
 refine anyT_done (by kernel_rfl) ?_ _
 have HZ := Lib.hid (HEND.out _ hb10)
 go_wp2
 go_ret
 exact ⟨rfl, HZ.out⟩
end Go.Proofs.YtbnafbdhomdcoaaGreatDoor
