/-
  CjLa, ChN, ChLawPlain, without what the claim does not reach.
-/
import Derived.Test.YtbnafbdhomdcoaaGreatDoorZCjRun
import Derived.Test.YtbnafbdhomdcoaaGreatDoorZChF
import Derived.Test.YtbnafbdhomdcoaaGreatDoorZm5
import Derived.Test.YtbnafbdhomdcoaaGreatDoorZChC
namespace Go.Proofs.YtbnafbdhomdcoaaGreatDoor
open Go.RowKit Go.Shelf Go.Lib
def GivesRR (x : Rs) (w : World) (e : Ending) (w' : World) : Prop := ∃ A c, e = .returned (rsV x A c) ∧ w'.ownsRow w.heap.size 69 2 (.slice A x.fields.length c) x.fields.length (flat x.fields) ∧ Below w.heap.size w w'
def rsCells (x : Rs) (A : Option Addr) (c : Nat) : Array Value := #[.int .i64 x.status, .string x.reason, .slice A x.fields.length c, .string x.body]
theorem two_box {w w' : World} {a b : Array Value} {s t : TypeId} (h : Below ((w.alloc (.cells a s)).alloc (.cells b t)).heap.size ((w.alloc (.cells a s)).alloc (.cells b t)) w') (j : Nat) :
  (w'.cell? ⟨w.heap.size, j, none⟩ = a[j]? ∧ w'.cell? ⟨w.heap.size + 1, j, none⟩ = b[j]?) ∧ (w'.frozen? ⟨w.heap.size, j, none⟩ = false ∧ w'.frozen? ⟨w.heap.size + 1, j, none⟩ = false) ∧ w.heap.size + 1 < w'.heap.size := by
 refine ⟨⟨?_, ?_⟩, ⟨?_, ?_⟩, by have := h.size; simp at this; omega⟩
 ·rw [h.cell (p := ⟨w.heap.size, j, none⟩) (by simp; omega), World.cell?_alloc_lt _ _ _ (by simp), World.cell?_alloc_new]
 ·rw [h.cell (p := ⟨w.heap.size + 1, j, none⟩) (by simp)]; exact World.cell?_alloc_at _ _ _ _ (by simp)
 ·rw [h.frozen (p := ⟨w.heap.size, j, none⟩) (by simp; omega), World.frozen?_alloc_past _ _ _ (by simp)]; exact World.frozen?_alloc_at _ _ _ _ rfl
 ·rw [h.frozen (p := ⟨w.heap.size + 1, j, none⟩) (by simp)]; exact World.frozen?_alloc_at _ _ _ _ (by simp)
set_option maxRecDepth 20000 in
set_option maxHeartbeats 2000000 in
theorem response_any (x : Rs) (A : Option Addr) (c : Nat) (w : World) (hr : Row w A (flat x.fields)) (hl : x.fields.length ≤ 4398046511104) :
  Calls Tryz.prog 19 #[rsV x A c] w (GivesRR x w) := by
 have HF := Lib.hid (fun (W : World) (h : Below w.heap.size w W) => fields_any A c x.fields W (hr.below h) hl)
 have HT := Lib.hid (fun (w' : World) (h : Below ((w.alloc (.cells (rsCells x A c) 29)).alloc (.cells rsC0 39)).heap.size ((w.alloc (.cells (rsCells x A c) 29)).alloc (.cells rsC0 39)) w') => fun j => two_box (w := w) h j)
 have HB := Lib.hid (show Below w.heap.size w ((w.alloc (.cells (rsCells x A c) 29)).alloc (.cells rsC0 39)) from ((Below.refl _ w).alloc (Nat.le_refl _) _).alloc (by simp) _)
 clear hr hl
 unfold rsV
 go_enter Tryz.func19, Tryz.ntmps19
 go_wp2_with fail
 rw [show (w.alloc (.cells #[.int .i64 x.status, .string x.reason, .slice A x.fields.length c, .string x.body] 29)).alloc (.cells #[.int .i64 0, .string ⟨#[]⟩, .slice none 0 0, .string ⟨#[]⟩] 39) = (w.alloc (.cells (rsCells x A c) 29)).alloc (.cells rsC0 39) from rfl]
 obtain ⟨W, hW⟩ : ∃ W, W = (w.alloc (.cells (rsCells x A c) 29)).alloc (.cells rsC0 39) := ⟨_, rfl⟩
 rw [← hW] at HT HB ⊢
 clear hW
 have hBd := below_dr (Below.refl W.heap.size W)
 have hS0 : (W.drew.cell? ⟨w.heap.size, 0, none⟩ = some (.int .i64 x.status) ∧ W.drew.cell? ⟨w.heap.size, 1, none⟩ = some (.string x.reason) ∧ W.drew.cell? ⟨w.heap.size, 2, none⟩ = some (.slice A x.fields.length c) ∧ W.drew.cell? ⟨w.heap.size, 3, none⟩ = some (.string x.body)) := ⟨(HT.out _ hBd 0).1.1, (HT.out _ hBd 1).1.1, (HT.out _ hBd 2).1.1, (HT.out _ hBd 3).1.1⟩
 refine region_T (t := 10) (S := fun W => (W.cell? ⟨w.heap.size, 0, none⟩ = some (.int .i64 x.status) ∧ W.cell? ⟨w.heap.size, 1, none⟩ = some (.string x.reason) ∧ W.cell? ⟨w.heap.size, 2, none⟩ = some (.slice A x.fields.length c) ∧ W.cell? ⟨w.heap.size, 3, none⟩ = some (.string x.body))) (by kernel_rfl) hS0 (fun hHeld => ?_)
 refine' anyT_take (i := 0) (v := _) rfl (by kernel_rfl) (by kernel_rfl) (by kernel_rfl) (by kernel_rfl) (by rfl) (fun _ _ _ h => h) (Or.inl ⟨by rfl, ?h1y⟩) hHeld ?h1r
 case h1y => (intro w hSw; (try dsimp only at hSw); (try simp only [List.getElem_toArray, List.getElem_cons_zero]); go_simp; try (with_reducible rfl))
 (try simp only [List.getElem_toArray, List.getElem_cons_zero, Act.put, List.setIfInBounds_toArray, List.set_cons_zero, List.set_cons_succ])
 refine' anyT_take (i := 1) (v := _) rfl (by kernel_rfl) (by kernel_rfl) (by kernel_rfl) (by kernel_rfl) (by rfl) (fun _ _ _ h => h) (Or.inl ⟨by rfl, ?h2y⟩) hHeld ?h2r
 case h2y => (intro w hSw; (try dsimp only at hSw); obtain ⟨s0, s1, s2, s3⟩ := hSw; (try simp only [List.getElem_toArray, List.getElem_cons_succ, List.getElem_cons_zero]); go_simp; try (with_reducible rfl))
 (try simp only [List.getElem_toArray, List.getElem_cons_succ, List.getElem_cons_zero, Act.put, List.setIfInBounds_toArray, List.set_cons_zero, List.set_cons_succ])
 refine' anyT_take (i := 2) (v := _) rfl (by kernel_rfl) (by kernel_rfl) (by kernel_rfl) (by kernel_rfl) (by rfl) (fun _ _ _ h => h) (Or.inl ⟨by rfl, ?h3y⟩) hHeld ?h3r
 case h3y => (intro w hSw; (try dsimp only at hSw); (try simp only [List.getElem_toArray, List.getElem_cons_succ, List.getElem_cons_zero]); go_simp; try (with_reducible rfl))
 (try simp only [List.getElem_toArray, List.getElem_cons_succ, List.getElem_cons_zero, Act.put, List.setIfInBounds_toArray, List.set_cons_zero, List.set_cons_succ])
 refine' anyT_take (i := 3) (v := _) rfl (by kernel_rfl) (by kernel_rfl) (by kernel_rfl) (by kernel_rfl) (by rfl) (fun _ _ _ h => h) (Or.inl ⟨by rfl, ?h4y⟩) hHeld ?h4r
 case h4y => (intro w hSw; (try dsimp only at hSw); obtain ⟨s0, s1, s2, s3⟩ := hSw; (try simp only [List.getElem_toArray, List.getElem_cons_succ, List.getElem_cons_zero]); go_simp; try (with_reducible rfl))
 (try simp only [List.getElem_toArray, List.getElem_cons_succ, List.getElem_cons_zero, Act.put, List.setIfInBounds_toArray, List.set_cons_zero, List.set_cons_succ])
 refine' anyT_take (i := 4) (v := _) rfl (by kernel_rfl) (by kernel_rfl) (by kernel_rfl) (by kernel_rfl) (by rfl) (fun _ _ _ h => h) (Or.inl ⟨by rfl, ?h5y⟩) hHeld ?h5r
 case h5y => (intro w hSw; (try dsimp only at hSw); (try simp only [List.getElem_toArray, List.getElem_cons_succ, List.getElem_cons_zero]); go_simp; try (with_reducible rfl))
 (try simp only [List.getElem_toArray, List.getElem_cons_succ, List.getElem_cons_zero, Act.put, List.setIfInBounds_toArray, List.set_cons_zero, List.set_cons_succ])
 refine' anyT_take (i := 5) (v := _) rfl (by kernel_rfl) (by kernel_rfl) (by kernel_rfl) (by kernel_rfl) (by rfl) (fun _ _ _ h => h) (Or.inl ⟨by rfl, ?h6y⟩) hHeld ?h6r
 case h6y => (intro w hSw; (try dsimp only at hSw); obtain ⟨s0, s1, s2, s3⟩ := hSw; (try simp only [List.getElem_toArray, List.getElem_cons_succ, List.getElem_cons_zero]); go_simp; try (with_reducible rfl))
 (try simp only [List.getElem_toArray, List.getElem_cons_succ, List.getElem_cons_zero, Act.put, List.setIfInBounds_toArray, List.set_cons_zero, List.set_cons_succ])
 refine' anyT_take (i := 7) (v := _) rfl (by kernel_rfl) (by kernel_rfl) (by kernel_rfl) (by kernel_rfl) (by rfl) (fun _ _ _ h => h) (Or.inl ⟨by rfl, ?h7y⟩) hHeld ?h7r
 case h7y => (intro w hSw; (try dsimp only at hSw); (try simp only [List.getElem_toArray, List.getElem_cons_succ, List.getElem_cons_zero]); go_simp; try (with_reducible rfl))
 (try simp only [List.getElem_toArray, List.getElem_cons_succ, List.getElem_cons_zero, Act.put, List.setIfInBounds_toArray, List.set_cons_zero, List.set_cons_succ])
 refine' anyT_take (i := 8) (v := _) rfl (by kernel_rfl) (by kernel_rfl) (by kernel_rfl) (by kernel_rfl) (by rfl) (fun _ _ _ h => h) (Or.inl ⟨by rfl, ?h8y⟩) hHeld ?h8r
 case h8y => (intro w hSw; (try dsimp only at hSw); obtain ⟨s0, s1, s2, s3⟩ := hSw; (try simp only [List.getElem_toArray, List.getElem_cons_succ, List.getElem_cons_zero]); go_simp; try (with_reducible rfl))
 (try simp only [List.getElem_toArray, List.getElem_cons_succ, List.getElem_cons_zero, Act.put, List.setIfInBounds_toArray, List.set_cons_zero, List.set_cons_succ])
 refine anyT_ready (rs := [6]) (by kernel_rfl) (by simp) ?_
 refine AllReadyT.cons rfl (fun K hK => ?_) AllReadyT.nil
 go_simp
 go_at_call 31
 refine (HF.out _ (HB.out.trans (hBd.mono HB.out.size))).mono ?_
 rintro e w2 ⟨A2, c2, rfl, ho, hb⟩
 have hb2 := hBd.trans (hb.mono hBd.size)
 have hS2 : (w2.cell? ⟨w.heap.size, 0, none⟩ = some (.int .i64 x.status) ∧ w2.cell? ⟨w.heap.size, 1, none⟩ = some (.string x.reason) ∧ w2.cell? ⟨w.heap.size, 2, none⟩ = some (.slice A x.fields.length c) ∧ w2.cell? ⟨w.heap.size, 3, none⟩ = some (.string x.body)) := ⟨(HT.out _ hb2 0).1.1, (HT.out _ hb2 1).1.1, (HT.out _ hb2 2).1.1, (HT.out _ hb2 3).1.1⟩
 (try go_wp2_with fail)
 refine hK.out _ _ (.inr hS2) (fun _ => ?_)
 clear hK K
 (try simp only [List.getElem_toArray, List.getElem_cons_succ, List.getElem_cons_zero, Act.put, List.setIfInBounds_toArray, List.set_cons_zero, List.set_cons_succ])
 refine' anyT_take (i := 9) (v := _) rfl (by kernel_rfl) (by kernel_rfl) (by kernel_rfl) (by kernel_rfl) (by rfl) (fun _ _ _ h => h) (Or.inl ⟨by rfl, ?h9y⟩) hS2 ?h9r
 case h9y => (intro w hSw; (try dsimp only at hSw); (try simp only [List.getElem_toArray, List.getElem_cons_succ, List.getElem_cons_zero]); go_simp; try (with_reducible rfl))
 (try simp only [List.getElem_toArray, List.getElem_cons_succ, List.getElem_cons_zero, Act.put, List.setIfInBounds_toArray, List.set_cons_zero, List.set_cons_succ])
 refine anyT_ready (rs := [10]) (by kernel_rfl) (by simp) ?_
 refine AllReadyT.cons rfl (fun K hK => ?_) AllReadyT.nil
 obtain ⟨⟨_, q0⟩, ⟨_, f0⟩, _⟩ := HT.out _ hb2 0
 obtain ⟨⟨_, q1⟩, ⟨_, f1⟩, _⟩ := HT.out _ hb2 1
 obtain ⟨⟨_, q2⟩, ⟨_, f2⟩, _⟩ := HT.out _ hb2 2
 obtain ⟨⟨_, q3⟩, ⟨_, f3⟩, _⟩ := HT.out _ hb2 3
 have r0 : w2.cell? ⟨w.heap.size + 1, 0, none⟩ = some (.int .i64 0) := q0
 have r1 : w2.cell? ⟨w.heap.size + 1, 1, none⟩ = some (.string ⟨#[]⟩) := q1
 have r2 : w2.cell? ⟨w.heap.size + 1, 2, none⟩ = some (.slice none 0 0) := q2
 have r3 : w2.cell? ⟨w.heap.size + 1, 3, none⟩ = some (.string ⟨#[]⟩) := q3
 have HO := Lib.hid ho
 have HB2 := Lib.hid (HB.out.trans (hb2.mono HB.out.size))
 have hWz : w.heap.size + 1 < W.heap.size := (HT.out W (Below.refl _ _) 0).2.2
 have HOZ := Lib.hid (show w.heap.size + 1 < W.drew.heap.size from hWz)
 clear ho hb hb2 hBd hS0 hS2 hHeld hWz q0 q1 q2 q3
 go_simp
 refine hK.out _ _ (.inl (by rfl)) (fun _ => ?_)
 clear hK K
 (try simp only [List.getElem_toArray, List.getElem_cons_succ, List.getElem_cons_zero, Act.put, List.setIfInBounds_toArray, List.set_cons_zero, List.set_cons_succ])
 refine anyT_done (by kernel_rfl) ?_ _
 go_wp2
 exact bodyPost_ret (v := rsV x A2 c2) (by simp [results, Tryz.results19, go_sem, rsV, r0, r1, r2, r3]) rfl ⟨A2, c2, rfl, own_less (b' := w.heap.size) (ownsRow_setCell_below (ownsRow_setCell_below (ownsRow_setCell_below (ownsRow_setCell_below HO.out HOZ.out _) HOZ.out _) HOZ.out _) HOZ.out _) (by have := HOZ.out; omega), (((HB2.out.setCell (Nat.le_succ _) _).setCell (Nat.le_succ _) _).setCell (Nat.le_succ _) _).setCell (Nat.le_succ _) _⟩
set_option maxRecDepth 20000 in
set_option maxHeartbeats 2000000 in
theorem sameR_any (x : Rs) (A B : Option Addr) (c d : Nat) (w : World) (hr : Row w A (flat x.fields)) (hs : Row w B (flat x.fields)) (hl : x.fields.length ≤ 4398046511104) :
  Calls Tryz.prog 14 #[rsV x A c, rsV x B d] w fun e w' => e = .returned (.bool true) ∧ Below w.heap.size w w' := by
 have HS := Lib.hid (fun (w1 : World) (hb : Below w.heap.size w w1) => sameFields_any A B c d x.fields x.fields w1 (hr.below hb) (hs.below hb) hl hl)
 rw [decide_eq_true (rfl : x.fields = x.fields)] at HS
 clear hr hs hl
 unfold rsV
 have h1 : (x.status == x.status) = true := by simp
 have h2 : (x.reason.toList == x.reason.toList) = true := by simp
 have h3 : (x.body.toList == x.body.toList) = true := by simp
 go_enter Tryz.func14, Tryz.ntmps14
 go_wp2_with fail
 refine (HS.out _ (((Below.refl _ w).alloc (Nat.le_refl _) _).alloc (by simp) _)).mono ?_
 rintro e w1 ⟨rfl, b1⟩
 have hbw : Below w.heap.size w w1 := (((Below.refl _ w).alloc (Nat.le_refl _) _).alloc (by simp) _).trans (b1.mono (by simp; omega))
 clear b1
 go_wp2
 go_ret
 exact ⟨rfl, hbw⟩
def noD : Nat → Prop := fun _ => False
def yesW : World → Prop := fun _ => True
theorem env_all {w : World} (hg : GlobC w) : Env noD yesW w := ⟨fun _ h => h.elim, fun _ h => hg.beyond h.below, fun _ _ _ _ _ => trivial⟩
theorem rowD_no {w : World} {A : Option Addr} {xs : List Value} (h : Row w A xs) : RowD noD w A xs := RowD.of_row h
theorem rowD_last {w W W2 : World} {A : Option Addr} {xs : List Value} (h : Row w A xs) (hb : Below w.heap.size w W2) : RowD (Out noD w.heap.size W) W2 A xs := fun hl => by
 obtain ⟨b, off, e, hbl, hc⟩ := h hl
 exact ⟨b, off, e, Nat.lt_of_lt_of_le hbl hb.size, fun hd => by rcases hd with h1 | ⟨h1, _⟩; exact h1; omega, fun j v hv => (hb.cell hbl).trans (hc j v hv)⟩
def lastT (x : Rs) (A : Option Addr) (c : Nat) : Ans := fun _ w y B d w' => y = x ∧ B = A ∧ d = c ∧ Below w.heap.size w w'
set_option maxRecDepth 20000 in
theorem nx_ChainLets_1 (N : Nat) (w0 : World) (q : Nat) (x : Rs) (A : Option Addr) (c : Nat) (hr : Row w0 A (flat x.fields)) (hx : FitS N x) (hq : q < w0.heap.size)
  (h0 : w0.cell? ⟨q, 7, none⟩ = some (.int .i64 x.status)) (h1 : w0.cell? ⟨q, 8, none⟩ = some (.string x.reason)) (h2 : w0.cell? ⟨q, 9, none⟩ = some (.slice A x.fields.length c)) (h3 : w0.cell? ⟨q, 10, none⟩ = some (.string x.body)) :
  Nx noD yesW w0.heap.size N w0 (.func (.func 20) #[] #[.pointer (some ⟨q, 0, none⟩)]) (lastT x A c) := by
 refine ⟨20, _, rfl, fun args w => Tryz.call20 args w, fun W r FA fc TA tc hk _ _ _ _ => ?_⟩
 have hb := hk.below
 have hqw : q < W.heap.size := Nat.lt_of_lt_of_le hq hb.size
 have k0 := (hb.cell (p := ⟨q, 7, none⟩) hq).trans h0
 have k1 := (hb.cell (p := ⟨q, 8, none⟩) hq).trans h1
 have k2 := (hb.cell (p := ⟨q, 9, none⟩) hq).trans h2
 have k3 := (hb.cell (p := ⟨q, 10, none⟩) hq).trans h3
 have HB := Lib.hid hb
 have HR := Lib.hid hr
 have HX := Lib.hid hx
 clear hb hk h0 h1 h2 h3 hr hx hq
 show Calls Tryz.prog 20 #[rqV r FA fc TA tc, .pointer (some ⟨q, 0, none⟩)] W (GivesX noD w0.heap.size N (lastT x A c r) W)
 unfold rqV
 go_enter Tryz.func20, Tryz.ntmps20
 go_wp2
 refine bodyPost_ret (v := rsV x A c) (by simp [results, Tryz.results20, go_sem, rsV]) rfl ?_
 have h2b : Below W.heap.size W ((W.alloc (.cells #[.string r.method, .string r.target, .int .i64 r.major, .int .i64 r.minor, .slice FA r.fields.length fc, .string r.body, .slice TA r.trailers.length tc] 27)).alloc (.cells #[.int .i64 x.status, .string x.reason, .slice A x.fields.length c, .string x.body] 29)) := ((Below.refl _ W).alloc (Nat.le_refl _) _).alloc (by simp) _
 exact ⟨x, A, c, rfl, rowD_last HR.out (HB.out.trans (h2b.mono HB.out.size)), HX.out, ⟨rfl, rfl, rfl, h2b⟩, Keep.of h2b⟩
set_option maxRecDepth 20000 in
theorem nx_ChainJoins_1 (N : Nat) (w0 : World) (q : Nat) (x : Rs) (A : Option Addr) (c : Nat) (hr : Row w0 A (flat x.fields)) (hx : FitS N x) (hq : q < w0.heap.size)
  (h0 : w0.cell? ⟨q, 7, none⟩ = some (.int .i64 x.status)) (h1 : w0.cell? ⟨q, 8, none⟩ = some (.string x.reason)) (h2 : w0.cell? ⟨q, 9, none⟩ = some (.slice A x.fields.length c)) (h3 : w0.cell? ⟨q, 10, none⟩ = some (.string x.body)) :
  Nx noD yesW w0.heap.size N w0 (.func (.func 17) #[] #[.pointer (some ⟨q, 0, none⟩)]) (lastT x A c) := by
 refine ⟨17, _, rfl, fun args w => Tryz.call17 args w, fun W r FA fc TA tc hk _ _ _ _ => ?_⟩
 have hb := hk.below
 have hqw : q < W.heap.size := Nat.lt_of_lt_of_le hq hb.size
 have k0 := (hb.cell (p := ⟨q, 7, none⟩) hq).trans h0
 have k1 := (hb.cell (p := ⟨q, 8, none⟩) hq).trans h1
 have k2 := (hb.cell (p := ⟨q, 9, none⟩) hq).trans h2
 have k3 := (hb.cell (p := ⟨q, 10, none⟩) hq).trans h3
 have HB := Lib.hid hb
 have HR := Lib.hid hr
 have HX := Lib.hid hx
 clear hb hk h0 h1 h2 h3 hr hx hq
 show Calls Tryz.prog 17 #[rqV r FA fc TA tc, .pointer (some ⟨q, 0, none⟩)] W (GivesX noD w0.heap.size N (lastT x A c r) W)
 unfold rqV
 go_enter Tryz.func17, Tryz.ntmps17
 go_wp2
 refine bodyPost_ret (v := rsV x A c) (by simp [results, Tryz.results17, go_sem, rsV]) rfl ?_
 have h2b : Below W.heap.size W ((W.alloc (.cells #[.string r.method, .string r.target, .int .i64 r.major, .int .i64 r.minor, .slice FA r.fields.length fc, .string r.body, .slice TA r.trailers.length tc] 27)).alloc (.cells #[.int .i64 x.status, .string x.reason, .slice A x.fields.length c, .string x.body] 29)) := ((Below.refl _ W).alloc (Nat.le_refl _) _).alloc (by simp) _
 exact ⟨x, A, c, rfl, rowD_last HR.out (HB.out.trans (h2b.mono HB.out.size)), HX.out, ⟨rfl, rfl, rfl, h2b⟩, Keep.of h2b⟩
end Go.Proofs.YtbnafbdhomdcoaaGreatDoor
namespace Go.Proofs.YtbnafbdhomdcoaaGreatDoor
open Go.RowKit Go.Shelf Go.Lib
end Go.Proofs.YtbnafbdhomdcoaaGreatDoor
namespace Go.Proofs.YtbnafbdhomdcoaaGreatDoor
open Go.RowKit Go.Shelf Go.Lib
theorem body404 : bodyP 404 = ⟨#[78, 111, 116, 32, 70, 111, 117, 110, 100, 10]⟩ := by
 have h : reasonP 404 = ⟨#[78, 111, 116, 32, 70, 111, 117, 110, 100]⟩ := by decide +kernel
 unfold bodyP wordP
 rw [h]
 decide +kernel
theorem run_fieldR (a b c d : Value) (w : World) : (Instr.field 29 (.agg #[a, b, c, d]) 3).run Tryz.prog w = .ok d w := by
 simp [Instr.field, go_sem]
 rfl
set_option maxRecDepth 20000 in
set_option maxHeartbeats 4000000 in
theorem awake_any (w : World) (hg : GlobC w) :
  Calls Tryz.prog 8 #[] w fun e w' => e = .returned (.bool true) ∧ Below w.heap.size w w' := by
 have heq : ∀ w : World, (binOp .eql 59 (.agg #[.string ⟨#[88]⟩, .string ⟨#[49]⟩]) (.agg #[.string ⟨#[88]⟩, .string ⟨#[49]⟩])).run Tryz.prog w = .ok (.bool true) w := fun _ => by kernel_rfl
 have HP := Lib.hid (fun (w1 : World) (hb : Below w.heap.size w w1) => Plain_any 404 none 0 [] w1 (Row.nil _ _) (by decide) (by decide) (by decide) (hg.beyond hb))
 rw [body404] at HP
 have HR := Lib.hid Run_one
 have hg' := hg.g
 have hfd := run_fieldR
 go_enter Tryz.func8, Tryz.ntmps8
 go_wp2_with fail
 have b0 : Below w.heap.size w (w.alloc (.cells #[.int .i64 1, .string ⟨#[88]⟩, .string ⟨#[49]⟩, .slice none 0 0, .int .i64 0] 24)) := (Below.refl _ w).alloc (Nat.le_refl _) _
 refine (HR.out _ w.heap.size (hg'.beyond b0) (by simp) (by simp) (by simp) (by simp) (by simp) (by simp)).mono ?_
 rintro e w1 ⟨A1, c1, rfl, ow, b1⟩
 have hb1 : Below w.heap.size w w1 := b0.trans (b1.mono (by simp))
 obtain ⟨b, off, rfl, hbl, k0, k1⟩ := (own_row ow).pair (k := 0) rfl
 simp only [Nat.zero_mul, Nat.add_zero] at k0 k1
 have hc1 := own_cap ow
 have hl1 : ([(⟨#[88]⟩, ⟨#[49]⟩)] : List Fl).length = 1 := rfl
 simp only [hl1] at hc1
 clear b0 b1 ow hl1
 go_wp2_with fail
 have hb2 := hb1.alloc hb1.size (.cells #[.int .i64 200, .string ⟨#[]⟩, .slice (some ⟨b, off, none⟩) 1 c1, .string ⟨#[]⟩] 29)
 refine (HP.out _ hb2).mono ?_
 rintro e w2 ⟨A2, c2, rfl, _, b2⟩
 have hb3 := hb2.trans (b2.mono hb2.size)
 clear b2 hb2
 go_wp2
 go_ret
 exact ⟨rfl, hb3⟩
end Go.Proofs.YtbnafbdhomdcoaaGreatDoor
