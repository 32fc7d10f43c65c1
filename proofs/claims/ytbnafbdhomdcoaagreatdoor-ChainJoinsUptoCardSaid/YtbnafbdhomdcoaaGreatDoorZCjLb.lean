/-
 CjLb, without what this claim does not reach.
-/
import Derived.Test.YtbnafbdhomdcoaaGreatDoorZm31
namespace Go.Proofs.YtbnafbdhomdcoaaGreatDoor
open Go.RowKit Go.Shelf Go.Lib
theorem GivesX.last {n0 N : Nat} {ls : List Mid} {T : Ans} {F : Rq → Rs} {r : Rq} {w w' : World} {e : Ending} (hF : ∀ r w x A c w', T r w x A c w' → x = F r) (h : GivesX noD n0 N (Stretch (runT ls T) r) w e w') :
  ∃ A c, e = .returned (rsV (runP ls F r) A c) ∧ Row w' A (flat (runP ls F r).fields) ∧ FitS N (runP ls F r) ∧ Below w.heap.size w w' := by
 obtain ⟨x, A, c, he, hr, hf, ht, hk⟩ := h
 have hx : x = runP ls F r := stretch_simple F hF ls ht
 subst hx
 exact ⟨A, c, he, hr.row, hf, hk.below⟩
def GivesL (N : Nat) (x : Rs) (w : World) (e : Ending) (w' : World) : Prop := ∃ A c, e = .returned (rsV x A c) ∧ Row w' A (flat x.fields) ∧ FitS N x ∧ Below w.heap.size w w'
theorem Run_last (ls : List Ma) (MA : Option Addr) (mc : Nat) (N : Nat) (x : Rs) (A : Option Addr) (c : Nat) (f : Value) (w : World) (r : Rq) (FA : Option Addr) (fc : Nat) (TA : Option Addr) (tc : Nat)
  (hg : GlobC w) (hX : Nx noD yesW w.heap.size N w f (lastT x A c)) (hN8 : 8 ≤ N) (hN : N + 2 * ls.length ≤ 1099511627776)
  (hM : Row w MA (flatM ls)) (hO : ∀ y ∈ ls, Row w y.2.1 (y.1.list.map .string) ∧ y.1.list.length ≤ y.2.2 ∧ FitM y.1) (hll : ls.length ≤ 1048576) (hF : Row w FA (flat r.fields)) (hT : Row w TA (flat r.trailers)) (hr : FitQ r) :
  Calls Tryz.prog 15 #[.slice MA ls.length mc, rqV r FA fc TA tc, f] w (GivesL (N + 2 * ls.length) (runP (ls.map (·.1)) (fun _ => x) r) w) := by
 have hf : ∃ g lb, f = .func (.func g) #[] lb := by
  obtain ⟨g, lb, e, _⟩ := hX
  exact ⟨g, lb, e⟩
 refine (Run_any ls MA mc noD yesW w.heap.size N (lastT x A c) f f false w r FA fc TA tc (.inr ⟨rfl, hf, rfl⟩) (env_all hg) trivial hX (Nat.le_refl _) hN8 hN (rowD_no hM) (fun y hy => ⟨rowD_no (hO y hy).1, (hO y hy).2⟩) hll (rowD_no hF) (rowD_no hT) hr).mono fun e w' h => ?_
 exact h.last (fun _ _ _ _ _ _ h => h.1)
def askC (r : Rq) (FA : Option Addr) (fc : Nat) (TA : Option Addr) (tc : Nat) (x : Rs) (A : Option Addr) (c : Nat) : Array Value := #[.string r.method, .string r.target, .int .i64 r.major, .int .i64 r.minor, .slice FA r.fields.length fc, .string r.body, .slice TA r.trailers.length tc, .int .i64 x.status, .string x.reason, .slice A x.fields.length c, .string x.body]
def AskW (q : Nat) (r : Rq) (FA : Option Addr) (fc : Nat) (TA : Option Addr) (tc : Nat) (x : Rs) (A : Option Addr) (c : Nat) (w : World) : Prop :=
 w.cell? ⟨q, 0, none⟩ = some (.string r.method) ∧ w.cell? ⟨q, 1, none⟩ = some (.string r.target) ∧ w.cell? ⟨q, 2, none⟩ = some (.int .i64 r.major) ∧ w.cell? ⟨q, 3, none⟩ = some (.int .i64 r.minor) ∧ w.cell? ⟨q, 4, none⟩ = some (.slice FA r.fields.length fc) ∧ w.cell? ⟨q, 5, none⟩ = some (.string r.body) ∧ w.cell? ⟨q, 6, none⟩ = some (.slice TA r.trailers.length tc) ∧
  w.cell? ⟨q, 7, none⟩ = some (.int .i64 x.status) ∧ w.cell? ⟨q, 8, none⟩ = some (.string x.reason) ∧ w.cell? ⟨q, 9, none⟩ = some (.slice A x.fields.length c) ∧ w.cell? ⟨q, 10, none⟩ = some (.string x.body)
theorem AskW.below {q : Nat} {r : Rq} {FA : Option Addr} {fc : Nat} {TA : Option Addr} {tc : Nat} {x : Rs} {A : Option Addr} {c : Nat} {w w' : World} {n : Nat} (h : AskW q r FA fc TA tc x A c w) (hb : Below n w w') (hq : q < n) : AskW q r FA fc TA tc x A c w' := by
 obtain ⟨h0, h1, h2, h3, h4, h5, h6, h7, h8, h9, h10⟩ := h
 exact ⟨(hb.cell (p := ⟨q, 0, none⟩) hq).trans h0, (hb.cell (p := ⟨q, 1, none⟩) hq).trans h1, (hb.cell (p := ⟨q, 2, none⟩) hq).trans h2, (hb.cell (p := ⟨q, 3, none⟩) hq).trans h3, (hb.cell (p := ⟨q, 4, none⟩) hq).trans h4, (hb.cell (p := ⟨q, 5, none⟩) hq).trans h5, (hb.cell (p := ⟨q, 6, none⟩) hq).trans h6, (hb.cell (p := ⟨q, 7, none⟩) hq).trans h7, (hb.cell (p := ⟨q, 8, none⟩) hq).trans h8, (hb.cell (p := ⟨q, 9, none⟩) hq).trans h9, (hb.cell (p := ⟨q, 10, none⟩) hq).trans h10⟩
theorem ask_new (w : World) (r : Rq) (FA : Option Addr) (fc : Nat) (TA : Option Addr) (tc : Nat) (x : Rs) (A : Option Addr) (c : Nat) (t : TypeId) : AskW w.heap.size r FA fc TA tc x A c (w.alloc (.cells (askC r FA fc TA tc x A c) t)) :=
 ⟨by rw [World.cell?_alloc_new]; rfl, by rw [World.cell?_alloc_new]; rfl, by rw [World.cell?_alloc_new]; rfl, by rw [World.cell?_alloc_new]; rfl, by rw [World.cell?_alloc_new]; rfl, by rw [World.cell?_alloc_new]; rfl, by rw [World.cell?_alloc_new]; rfl, by rw [World.cell?_alloc_new]; rfl, by rw [World.cell?_alloc_new]; rfl, by rw [World.cell?_alloc_new]; rfl, by rw [World.cell?_alloc_new]; rfl⟩
theorem info_mid : (Tryz.prog.info? 24).map (fun i => (i.zero, i.size, i.bytes)) = some (some (.agg #[.int .i64 0, .string ⟨#[]⟩, .string ⟨#[]⟩, .slice none 0 0, .int .i64 0]), 5, 72) := by kernel_rfl
theorem flatM_oneCell (l : List Ma) : ∀ u ∈ flatM l, u.oneCell' = true := by
 intro u hu
 simp only [flatM, List.mem_flatMap] at hu
 obtain ⟨p, _, hp⟩ := hu
 simp [maV] at hp
 rcases hp with rfl | rfl | rfl | rfl | rfl <;> rfl
def wrongM (kind : Int) (b : Nat) : Ma := (⟨kind, ⟨#[10]⟩, ⟨#[10]⟩, [⟨#[10]⟩], -1⟩, some ⟨b, 0, none⟩, 1)
theorem wrong_check (kind : Int) (b : Nat) : checkM (wrongM kind b).1 = false := check_full (by simp [wrongM, ByteArray.size]) (by simp [wrongM, ByteArray.size]) (by simp [wrongM]) (by simp [wrongM])
theorem wrong_fit {kind : Int} {b : Nat} (hk : -9223372036854775808 ≤ kind ∧ kind ≤ 9223372036854775807) : FitM (wrongM kind b).1 := ⟨by simp [wrongM, ByteArray.size], by simp [wrongM, ByteArray.size], (show (⟨#[10]⟩ : ByteArray).size + 1 + 0 ≤ 1048576 by decide), hk.1, hk.2, by simp [wrongM], by simp [wrongM]⟩
theorem GivesL.more {N M : Nat} {x : Rs} {w w' : World} {e : Ending} (h : GivesL N x w e w') (hm : N ≤ M) : GivesL M x w e w' := by
 obtain ⟨A, c, h1, h2, h3, h4⟩ := h
 exact ⟨A, c, h1, h2, h3.more hm, h4⟩
structure LetsW (w W : World) (kind : Int) (ls : List Ma) (B : Option Addr) : Prop where
 row : Row W B (flatM (wrongM kind (w.heap.size + 1) :: ls))
 one : Row W (some ⟨w.heap.size + 1, 0, none⟩) [.string ⟨#[10]⟩]
 old : Below w.heap.size w W
set_option maxRecDepth 20000 in
set_option maxHeartbeats 4000000 in
theorem ChainLets_any (kind : Int) (ls : List Ma) (MA : Option Addr) (mc : Nat) (w : World) (r : Rq) (FA : Option Addr) (fc : Nat) (TA : Option Addr) (tc : Nat) (x : Rs) (A : Option Addr) (c : Nat)
  (hk : -9223372036854775808 ≤ kind ∧ kind ≤ 9223372036854775807) (hg : GlobC w) (hM : Row w MA (flatM ls)) (hO : ∀ y ∈ ls, Row w y.2.1 (y.1.list.map .string) ∧ y.1.list.length ≤ y.2.2 ∧ FitM y.1) (hll : ls.length ≤ 1048570)
  (hF : Row w FA (flat r.fields)) (hT : Row w TA (flat r.trailers)) (hr : FitQ r) (hA : Row w A (flat x.fields)) (hx : FitS 1048576 x) :
  Calls Tryz.prog 6 #[.slice MA ls.length mc, .agg (askC r FA fc TA tc x A c), .int .i64 kind] w fun e w' => e = .returned (.bool true) ∧ Below w.heap.size w w' := by
 have hmf : ∀ (fn : Fn) (first cap : Array Value) (w : World), (Instr.makeFunc fn first cap).run Tryz.prog w = .ok (.func fn first cap) w := fun _ _ _ _ => rfl
 obtain ⟨i0, hi0, hz0, hz1, hz2⟩ := info_parts info_mid
 have HRUN := Lib.hid (fun (W : World) (hb : Below w.heap.size w W) (hS : AskW w.heap.size r FA fc TA tc x A c W) (hq : w.heap.size < W.heap.size) (l : List Ma) (B : Option Addr) (bc : Nat) (h1 : Row W B (flatM l)) (h2 : ∀ y ∈ l, Row W y.2.1 (y.1.list.map .string) ∧ y.1.list.length ≤ y.2.2 ∧ FitM y.1) (h3 : l.length ≤ 1048576) =>
  (Run_last l B bc 1048576 x A c (.func (.func 20) #[] #[.pointer (some ⟨w.heap.size, 0, none⟩)]) W r FA fc TA tc (hg.beyond hb)
   (by obtain ⟨_, _, _, _, _, _, _, k7, k8, k9, k10⟩ := hS; exact nx_ChainLets_1 1048576 W w.heap.size x A c (hA.below hb) hx hq k7 k8 k9 k10)
   (by decide) (by omega) h1 h2 h3 (hF.below hb) (hT.below hb) hr))
 have HOO := Lib.hid (fun (W : World) (hb : Below w.heap.size w W) y (hy : y ∈ ls) => (⟨(hO y hy).1.below hb, (hO y hy).2⟩ : Row W y.2.1 (y.1.list.map .string) ∧ y.1.list.length ≤ y.2.2 ∧ FitM y.1))
 have HMM := Lib.hid (fun (W : World) (hb : Below w.heap.size w W) => hM.below hb)
 have HA1 := Lib.hid (fun (W : World) (hb : Below w.heap.size w W) => hA.below hb)
 have HG := Lib.hid (fun (W : World) (hb : Below w.heap.size w W) => hg.beyond hb)
 have HX := Lib.hid hx
 have HK := Lib.hid hk
 clear hk hg hM hO hF hT hr hA hx
 have hown0 : (((w.alloc (.cells (askC r FA fc TA tc x A c) 52)).alloc (.cells #[.string ⟨#[10]⟩] 9)).alloc (.cells #[.int .i64 kind, .string ⟨#[10]⟩, .string ⟨#[10]⟩, .slice (some ⟨w.heap.size + 1, 0, none⟩) 1 1, .int .i64 (-1)] 24)).ownsRow (w.heap.size + 2) 24 5 (.slice (some ⟨w.heap.size + 1 + 1, 0, none⟩) 1 1) 1 (maV (wrongM kind (w.heap.size + 1))) := by
  have h := World.ownsRow_lit (base := w.heap.size + 2) (e := 24) (size := 5) ((w.alloc (.cells (askC r FA fc TA tc x A c) 52)).alloc (.cells #[.string ⟨#[10]⟩] 9)) #[.int .i64 kind, .string ⟨#[10]⟩, .string ⟨#[10]⟩, .slice (some ⟨w.heap.size + 1, 0, none⟩) 1 1, .int .i64 (-1)] 1 (by simp) (by unfold maxLen; omega) rfl
  simp at h
  exact h
 have hrM : Row (((w.alloc (.cells (askC r FA fc TA tc x A c) 52)).alloc (.cells #[.string ⟨#[10]⟩] 9)).alloc (.cells #[.int .i64 kind, .string ⟨#[10]⟩, .string ⟨#[10]⟩, .slice (some ⟨w.heap.size + 1, 0, none⟩) 1 1, .int .i64 (-1)] 24)) MA (flatM ls) := HMM.out _ ((((Below.refl _ w).alloc (Nat.le_refl _) _).alloc (by simp) _).alloc (by simp; omega) _)
 have HA0 := Lib.hid (((ask_new w r FA fc TA tc x A c 52).below ((Below.refl (w.heap.size + 1) _).alloc (by simp) (.cells #[.string ⟨#[10]⟩] 9)) (Nat.lt_succ_self _)).below ((Below.refl (w.heap.size + 2) _).alloc (by simp) (.cells #[.int .i64 kind, .string ⟨#[10]⟩, .string ⟨#[10]⟩, .slice (some ⟨w.heap.size + 1, 0, none⟩) 1 1, .int .i64 (-1)] 24)) (by omega))
 unfold askC at *
 go_enter Tryz.func6, Tryz.ntmps6
 go_wp2_with (at_builtin; refine wpList_append_any _ rfl _ _ 32 rfl (w.heap.size + 2) 24 i0 (.agg #[.int .i64 0, .string ⟨#[]⟩, .string ⟨#[]⟩, .slice none 0 0, .int .i64 0]) 5 72 Tryz.underlying32 hi0 hz0 hz1 hz2 rfl (by decide) _ 1 (maV (wrongM kind (w.heap.size + 1))) rfl hown0 _ MA ls.length mc (flatM ls) rfl (reads_of_row hrM (flatM_length ls) (by decide)) ?c1 ?c2 ?c3 ?c4 ?c5)
 case c1 => exact flatM_oneCell ls
 case c2 => unfold maxLen; omega
 case c3 => omega
 case c4 => simp
 case c5 =>
  intro v' w3 hown hgr _
  have hb3 : Below (w.heap.size + 2) (((w.alloc (.cells (askC r FA fc TA tc x A c) 52)).alloc (.cells #[.string ⟨#[10]⟩] 9)).alloc (.cells #[.int .i64 kind, .string ⟨#[10]⟩, .string ⟨#[10]⟩, .slice (some ⟨w.heap.size + 1, 0, none⟩) 1 1, .int .i64 (-1)] 24)) w3 := (Below.refl _ _).grown hgr (by simp) (fun k hk => by simp [Value.ownBlock] at hk; omega)
  have hbw : Below w.heap.size w w3 := ((((Below.refl _ w).alloc (Nat.le_refl _) _).alloc (by simp) _).alloc (by simp; omega) _).trans (hb3.mono (by omega))
  have hov : w3.ownsRow (w.heap.size + 2) 24 5 v' (wrongM kind (w.heap.size + 1) :: ls).length (flatM (wrongM kind (w.heap.size + 1) :: ls)) := by rw [List.length_cons, Nat.add_comm ls.length 1]; exact hown
  have hS3 : AskW w.heap.size r FA fc TA tc x A c w3 := HA0.out.below hb3 (by omega)
  obtain ⟨B, bc, rfl⟩ := own_slice hov
  have hq3 : w.heap.size + 2 < w3.heap.size := Nat.lt_of_lt_of_le (by simp) hb3.size
  have hone : Row w3 (some ⟨w.heap.size + 1, 0, none⟩) [.string ⟨#[10]⟩] := fun _ => ⟨w.heap.size + 1, 0, rfl, by omega, fun j v hv => by
   have hj : j = 0 := by
    have := (List.getElem?_eq_some_iff.1 hv).1
    simpa using this
   subst hj
   have hv : v = .string ⟨#[10]⟩ := by simpa using hv.symm
   subst hv
   rw [hb3.cell (p := ⟨w.heap.size + 1, 0 + 0, none⟩) (show w.heap.size + 1 < w.heap.size + 2 by omega)]
   rw [World.cell?_alloc_lt _ _ _ (by simp)]
   exact World.cell?_alloc_at _ _ _ _ (by simp)⟩
  have HL := Lib.hid (⟨own_row hov, hone, hbw⟩ : LetsW w w3 kind ls B)
  have HS3 := Lib.hid hS3
  have HQ3 := Lib.hid (show w.heap.size < w3.heap.size by omega)
  rw [show (wrongM kind (w.heap.size + 1) :: ls).length = 1 + ls.length by rw [List.length_cons, Nat.add_comm]] at *
  clear hown hgr hb3 hbw hov hq3 hone hS3 hown0 hrM HA0 hi0 hz0 hz1 hz2
  have HRA := Lib.hid (fun (W : World) (hb : Below w3.heap.size w3 W) => (HRUN.out W (HL.out.old.trans (hb.mono HL.out.old.size)) (HS3.out.below hb HQ3.out) (Nat.lt_of_lt_of_le HQ3.out hb.size)))
  have HR1 := Lib.hid (fun (W : World) (hb : Below w3.heap.size w3 W) => (show Calls Tryz.prog 15 #[.slice B (1 + ls.length) bc, rqV r FA fc TA tc, .func (.func 20) #[] #[.pointer (some ⟨w.heap.size, 0, none⟩)]] W (GivesL 4194304 (runP (ls.map (·.1)) (fun _ => x) r) W) from by
   have h := HRA.out W hb (wrongM kind (w.heap.size + 1) :: ls) B bc (HL.out.row.below hb) (fun y hy => by
    rcases List.mem_cons.1 hy with rfl | hy
    ·exact ⟨HL.out.one.below hb, Nat.le_refl _, wrong_fit HK.out⟩
    ·exact HOO.out W (HL.out.old.trans (hb.mono HL.out.old.size)) y hy) (by rw [List.length_cons]; omega)
   rw [show (wrongM kind (w.heap.size + 1) :: ls).length = 1 + ls.length by rw [List.length_cons, Nat.add_comm], List.map_cons, runP_wrong (wrong_check _ _)] at h
   exact h.mono fun e w' g => g.more (by omega)))
  have HR2 := Lib.hid (fun (W : World) (hb : Below w3.heap.size w3 W) => (show Calls Tryz.prog 15 #[.slice MA ls.length mc, rqV r FA fc TA tc, .func (.func 20) #[] #[.pointer (some ⟨w.heap.size, 0, none⟩)]] W (GivesL 4194304 (runP (ls.map (·.1)) (fun _ => x) r) W) from
   (HRA.out W hb ls MA mc (HMM.out W (HL.out.old.trans (hb.mono HL.out.old.size))) (HOO.out W (HL.out.old.trans (hb.mono HL.out.old.size))) (by omega)).mono fun e w' g => g.more (by omega)))
  have HR3 := Lib.hid (fun (W : World) (hb : Below w3.heap.size w3 W) => (show Calls Tryz.prog 15 #[.slice none 0 0, rqV r FA fc TA tc, .func (.func 20) #[] #[.pointer (some ⟨w.heap.size, 0, none⟩)]] W (GivesL 4194304 x W) from
   (HRA.out W hb [] none 0 (Row.nil _ _) (fun y hy => by cases hy) (by decide)).mono fun e w' g => g.more (by simp)))
  have HQX := Lib.hid (fun (W : World) (hb : Below w3.heap.size w3 W) => HS3.out.below hb HQ3.out)
  have HAW := Lib.hid (fun (W : World) (hb : Below w3.heap.size w3 W) => awake_any W (HG.out W (HL.out.old.trans (hb.mono HL.out.old.size))))
  have HAA := Lib.hid (fun (W : World) (hb : Below w3.heap.size w3 W) => HA1.out W (HL.out.old.trans (hb.mono HL.out.old.size)))
  have HEND := Lib.hid (fun (W : World) (hb : Below w3.heap.size w3 W) => HL.out.old.trans (hb.mono HL.out.old.size))
  have HXL : x.fields.length ≤ 4398046511104 := Nat.le_trans HX.out.many (by decide)
  clear HRA HRUN HOO HMM HA1 HG HL HK HS3 HQ3 hll HX
  obtain ⟨y, hy⟩ : ∃ y, y = runP (ls.map (·.1)) (fun _ => x) r := ⟨_, rfl⟩
  rw [← hy] at HR1 HR2
  clear hy
  go_wp2_with fail
  have hb0 := below_dr (Below.refl w3.heap.size w3)
  have hS0 := HQX.out _ hb0
  refine region_T (t := 25) (S := fun W => AskW w.heap.size r FA fc TA tc x A c W) (by kernel_rfl) hS0 (fun hHeld => ?_)
  refine anyT_ready (rs := [0]) (by kernel_rfl) (by simp) ?_
  refine AllReadyT.cons rfl (fun K hK => ?_) AllReadyT.nil
  (try rw [if_pos (by rfl)])
  go_simp
  go_at_call 8
  refine (HAW.out _ hb0).mono ?_
  rintro e w4 ⟨rfl, b4⟩
  have hb4 := hb0.trans (b4.mono hb0.size)
  clear b4
  (try go_wp2_with fail)
  refine hK.out _ _ (.inr (HQX.out _ hb4)) (fun _ => ?_)
  clear hK K
  refine' anyT_take (i := 1) (v := _) rfl (by kernel_rfl) (by kernel_rfl) (by kernel_rfl) (by kernel_rfl) (by rfl) (fun _ _ _ h => h) (Or.inl ⟨by rfl, ?h1y⟩) (HQX.out _ hb4) ?h1r
  case h1y => (intro w hSw; (try dsimp only at hSw); (try simp only [List.getElem_toArray, List.getElem_cons_succ, List.getElem_cons_zero]); go_simp; try (with_reducible rfl))
  (try simp only [List.getElem_toArray, List.getElem_cons_succ, List.getElem_cons_zero, Act.put, List.setIfInBounds_toArray, List.set_cons_zero, List.set_cons_succ])
  refine' anyT_take (i := 2) (v := _) rfl (by kernel_rfl) (by kernel_rfl) (by kernel_rfl) (by kernel_rfl) (by rfl) (fun _ _ _ h => h) (Or.inl ⟨by rfl, ?h2y⟩) (HQX.out _ hb4) ?h2r
  case h2y => (intro w hSw; (try dsimp only at hSw); (try simp only [List.getElem_toArray, List.getElem_cons_succ, List.getElem_cons_zero]); go_simp; try (with_reducible rfl))
  (try simp only [List.getElem_toArray, List.getElem_cons_succ, List.getElem_cons_zero, Act.put, List.setIfInBounds_toArray, List.set_cons_zero, List.set_cons_succ])
  refine' anyT_take (i := 3) (v := _) rfl (by kernel_rfl) (by kernel_rfl) (by kernel_rfl) (by kernel_rfl) (by rfl) (fun _ _ _ h => h) (Or.inl ⟨by rfl, ?h3y⟩) (HQX.out _ hb4) ?h3r
  case h3y => (intro w hSw; (try dsimp only at hSw); (try simp only [List.getElem_toArray, List.getElem_cons_succ, List.getElem_cons_zero]); go_simp; try (with_reducible rfl))
  (try simp only [List.getElem_toArray, List.getElem_cons_succ, List.getElem_cons_zero, Act.put, List.setIfInBounds_toArray, List.set_cons_zero, List.set_cons_succ])
  refine' anyT_take (i := 4) (v := _) rfl (by kernel_rfl) (by kernel_rfl) (by kernel_rfl) (by kernel_rfl) (by rfl) (fun _ _ _ h => h) (Or.inl ⟨by rfl, ?h4y⟩) (HQX.out _ hb4) ?h4r
  case h4y => (intro w hSw; (try dsimp only at hSw); obtain ⟨s0, s1, s2, s3, s4, s5, s6, s7, s8, s9, s10⟩ := hSw; (try simp only [List.getElem_toArray, List.getElem_cons_succ, List.getElem_cons_zero]); go_simp; try (with_reducible rfl))
  (try simp only [List.getElem_toArray, List.getElem_cons_succ, List.getElem_cons_zero, Act.put, List.setIfInBounds_toArray, List.set_cons_zero, List.set_cons_succ])
  refine' anyT_take (i := 5) (v := _) rfl (by kernel_rfl) (by kernel_rfl) (by kernel_rfl) (by kernel_rfl) (by rfl) (fun _ _ _ h => h) (Or.inl ⟨by rfl, ?h5y⟩) (HQX.out _ hb4) ?h5r
  case h5y => (intro w hSw; (try dsimp only at hSw); (try simp only [List.getElem_toArray, List.getElem_cons_succ, List.getElem_cons_zero]); go_simp; try (with_reducible rfl))
  (try simp only [List.getElem_toArray, List.getElem_cons_succ, List.getElem_cons_zero, Act.put, List.setIfInBounds_toArray, List.set_cons_zero, List.set_cons_succ])
  refine' anyT_take (i := 7) (v := _) rfl (by kernel_rfl) (by kernel_rfl) (by kernel_rfl) (by kernel_rfl) (by rfl) (fun _ _ _ h => h) (Or.inl ⟨by rfl, ?h6y⟩) (HQX.out _ hb4) ?h6r
  case h6y => (intro w hSw; (try dsimp only at hSw); (try simp only [List.getElem_toArray, List.getElem_cons_succ, List.getElem_cons_zero]); go_simp; try (with_reducible rfl))
  (try simp only [List.getElem_toArray, List.getElem_cons_succ, List.getElem_cons_zero, Act.put, List.setIfInBounds_toArray, List.set_cons_zero, List.set_cons_succ])
  refine' anyT_take (i := 8) (v := _) rfl (by kernel_rfl) (by kernel_rfl) (by kernel_rfl) (by kernel_rfl) (by rfl) (fun _ _ _ h => h) (Or.inl ⟨by rfl, ?h7y⟩) (HQX.out _ hb4) ?h7r
  case h7y => (intro w hSw; (try dsimp only at hSw); (try simp only [List.getElem_toArray, List.getElem_cons_succ, List.getElem_cons_zero]); go_simp; try (with_reducible rfl))
  (try simp only [List.getElem_toArray, List.getElem_cons_succ, List.getElem_cons_zero, Act.put, List.setIfInBounds_toArray, List.set_cons_zero, List.set_cons_succ])
  refine' anyT_take (i := 9) (v := _) rfl (by kernel_rfl) (by kernel_rfl) (by kernel_rfl) (by kernel_rfl) (by rfl) (fun _ _ _ h => h) (Or.inl ⟨by rfl, ?h8y⟩) (HQX.out _ hb4) ?h8r
  case h8y => (intro w hSw; (try dsimp only at hSw); obtain ⟨s0, s1, s2, s3, s4, s5, s6, s7, s8, s9, s10⟩ := hSw; (try simp only [List.getElem_toArray, List.getElem_cons_succ, List.getElem_cons_zero]); go_simp; try (with_reducible rfl))
  (try simp only [List.getElem_toArray, List.getElem_cons_succ, List.getElem_cons_zero, Act.put, List.setIfInBounds_toArray, List.set_cons_zero, List.set_cons_succ])
  refine' anyT_take (i := 10) (v := _) rfl (by kernel_rfl) (by kernel_rfl) (by kernel_rfl) (by kernel_rfl) (by rfl) (fun _ _ _ h => h) (Or.inl ⟨by rfl, ?h9y⟩) (HQX.out _ hb4) ?h9r
  case h9y => (intro w hSw; (try dsimp only at hSw); (try simp only [List.getElem_toArray, List.getElem_cons_succ, List.getElem_cons_zero]); go_simp; try (with_reducible rfl))
  (try simp only [List.getElem_toArray, List.getElem_cons_succ, List.getElem_cons_zero, Act.put, List.setIfInBounds_toArray, List.set_cons_zero, List.set_cons_succ])
  refine anyT_ready (rs := [6]) (by kernel_rfl) (by simp) ?_
  refine AllReadyT.cons rfl (fun K hK => ?_) AllReadyT.nil
  (try rw [if_pos (by rfl)])
  go_simp
  go_at_call 15
  refine (HR1.out _ hb4).mono ?_
  rintro e w5 ⟨A5, c5, rfl, r5, f5, b5⟩
  have hb5 := hb4.trans (b5.mono hb4.size)
  have l5 : y.fields.length ≤ 4398046511104 := Nat.le_trans f5.many (by decide)
  clear f5
  clear b5
  (try go_wp2_with fail)
  refine hK.out _ _ (.inr (HQX.out _ hb5)) (fun _ => ?_)
  clear hK K
  (try simp only [List.getElem_toArray, List.getElem_cons_succ, List.getElem_cons_zero, Act.put, List.setIfInBounds_toArray, List.set_cons_zero, List.set_cons_succ])
  refine anyT_ready (rs := [11]) (by kernel_rfl) (by simp) ?_
  refine AllReadyT.cons rfl (fun K hK => ?_) AllReadyT.nil
  (try rw [if_pos (by rfl)])
  go_simp
  go_at_call 15
  refine (HR2.out _ hb5).mono ?_
  rintro e w6 ⟨A6, c6, rfl, r6, _, b6⟩
  have hb6 := hb5.trans (b6.mono hb5.size)
  have r56 := r5.below b6
  clear r5
  clear b6
  (try go_wp2_with fail)
  refine hK.out _ _ (.inr (HQX.out _ hb6)) (fun _ => ?_)
  clear hK K
  (try simp only [List.getElem_toArray, List.getElem_cons_succ, List.getElem_cons_zero, Act.put, List.setIfInBounds_toArray, List.set_cons_zero, List.set_cons_succ])
  refine anyT_ready (rs := [12]) (by kernel_rfl) (by simp) ?_
  refine AllReadyT.cons rfl (fun K hK => ?_) AllReadyT.nil
  (try rw [if_pos (by rfl)])
  go_simp
  go_at_call 19
  refine (response_any y A6 c6 _ r6 l5).mono ?_
  rintro e w7 ⟨A7, c7, rfl, o7, b7⟩
  have hb7 := hb6.trans (b7.mono hb6.size)
  have r57 := r56.below b7
  have r7 := own_row o7
  clear r56 r6 o7
  clear b7
  (try go_wp2_with fail)
  refine hK.out _ _ (.inr (HQX.out _ hb7)) (fun _ => ?_)
  clear hK K
  (try simp only [List.getElem_toArray, List.getElem_cons_succ, List.getElem_cons_zero, Act.put, List.setIfInBounds_toArray, List.set_cons_zero, List.set_cons_succ])
  refine anyT_ready (rs := [13]) (by kernel_rfl) (by simp) ?_
  refine AllReadyT.cons rfl (fun K hK => ?_) AllReadyT.nil
  (try rw [if_pos (by rfl)])
  go_simp
  go_at_call 14
  refine (sameR_any y A5 A7 c5 c7 _ r57 r7 l5).mono ?_
  rintro e w8 ⟨rfl, b8⟩
  have hb8 := hb7.trans (b8.mono hb7.size)
  clear r57 r7 l5
  clear b8
  (try go_wp2_with fail)
  refine hK.out _ _ (.inr (HQX.out _ hb8)) (fun _ => ?_)
  clear hK K
  (try simp only [List.getElem_toArray, List.getElem_cons_succ, List.getElem_cons_zero, Act.put, List.setIfInBounds_toArray, List.set_cons_zero, List.set_cons_succ])
  refine' anyT_take (i := 14) (v := _) rfl (by kernel_rfl) (by kernel_rfl) (by kernel_rfl) (by kernel_rfl) (by rfl) (fun _ _ _ h => h) (Or.inl ⟨by rfl, ?h10y⟩) (HQX.out _ hb8) ?h10r
  case h10y => (intro w hSw; (try dsimp only at hSw); (try simp only [List.getElem_toArray, List.getElem_cons_succ, List.getElem_cons_zero]); go_simp; try (with_reducible rfl))
  (try simp only [List.getElem_toArray, List.getElem_cons_succ, List.getElem_cons_zero, Act.put, List.setIfInBounds_toArray, List.set_cons_zero, List.set_cons_succ])
  refine' anyT_take (i := 15) (v := _) rfl (by kernel_rfl) (by kernel_rfl) (by kernel_rfl) (by kernel_rfl) (by rfl) (fun _ _ _ h => h) (Or.inl ⟨by rfl, ?h11y⟩) (HQX.out _ hb8) ?h11r
  case h11y => (intro w hSw; (try dsimp only at hSw); (try simp only [List.getElem_toArray, List.getElem_cons_succ, List.getElem_cons_zero]); go_simp; try (with_reducible rfl))
  (try simp only [List.getElem_toArray, List.getElem_cons_succ, List.getElem_cons_zero, Act.put, List.setIfInBounds_toArray, List.set_cons_zero, List.set_cons_succ])
  refine' anyT_take (i := 16) (v := _) rfl (by kernel_rfl) (by kernel_rfl) (by kernel_rfl) (by kernel_rfl) (by rfl) (fun _ _ _ h => h) (Or.inl ⟨by rfl, ?h12y⟩) (HQX.out _ hb8) ?h12r
  case h12y => (intro w hSw; (try dsimp only at hSw); (try simp only [List.getElem_toArray, List.getElem_cons_succ, List.getElem_cons_zero]); go_simp; try (with_reducible rfl))
  (try simp only [List.getElem_toArray, List.getElem_cons_succ, List.getElem_cons_zero, Act.put, List.setIfInBounds_toArray, List.set_cons_zero, List.set_cons_succ])
  refine' anyT_take (i := 17) (v := _) rfl (by kernel_rfl) (by kernel_rfl) (by kernel_rfl) (by kernel_rfl) (by rfl) (fun _ _ _ h => h) (Or.inl ⟨by rfl, ?h13y⟩) (HQX.out _ hb8) ?h13r
  case h13y => (intro w hSw; (try dsimp only at hSw); obtain ⟨s0, s1, s2, s3, s4, s5, s6, s7, s8, s9, s10⟩ := hSw; (try simp only [List.getElem_toArray, List.getElem_cons_succ, List.getElem_cons_zero]); go_simp; try (with_reducible rfl))
  (try simp only [List.getElem_toArray, List.getElem_cons_succ, List.getElem_cons_zero, Act.put, List.setIfInBounds_toArray, List.set_cons_zero, List.set_cons_succ])
  refine' anyT_take (i := 18) (v := _) rfl (by kernel_rfl) (by kernel_rfl) (by kernel_rfl) (by kernel_rfl) (by rfl) (fun _ _ _ h => h) (Or.inl ⟨by rfl, ?h14y⟩) (HQX.out _ hb8) ?h14r
  case h14y => (intro w hSw; (try dsimp only at hSw); (try simp only [List.getElem_toArray, List.getElem_cons_succ, List.getElem_cons_zero]); go_simp; try (with_reducible rfl))
  (try simp only [List.getElem_toArray, List.getElem_cons_succ, List.getElem_cons_zero, Act.put, List.setIfInBounds_toArray, List.set_cons_zero, List.set_cons_succ])
  refine' anyT_take (i := 20) (v := _) rfl (by kernel_rfl) (by kernel_rfl) (by kernel_rfl) (by kernel_rfl) (by rfl) (fun _ _ _ h => h) (Or.inl ⟨by rfl, ?h15y⟩) (HQX.out _ hb8) ?h15r
  case h15y => (intro w hSw; (try dsimp only at hSw); (try simp only [List.getElem_toArray, List.getElem_cons_succ, List.getElem_cons_zero]); go_simp; try (with_reducible rfl))
  (try simp only [List.getElem_toArray, List.getElem_cons_succ, List.getElem_cons_zero, Act.put, List.setIfInBounds_toArray, List.set_cons_zero, List.set_cons_succ])
  refine' anyT_take (i := 21) (v := _) rfl (by kernel_rfl) (by kernel_rfl) (by kernel_rfl) (by kernel_rfl) (by rfl) (fun _ _ _ h => h) (Or.inl ⟨by rfl, ?h16y⟩) (HQX.out _ hb8) ?h16r
  case h16y => (intro w hSw; (try dsimp only at hSw); obtain ⟨s0, s1, s2, s3, s4, s5, s6, s7, s8, s9, s10⟩ := hSw; (try simp only [List.getElem_toArray, List.getElem_cons_succ, List.getElem_cons_zero]); go_simp; try (with_reducible rfl))
  (try simp only [List.getElem_toArray, List.getElem_cons_succ, List.getElem_cons_zero, Act.put, List.setIfInBounds_toArray, List.set_cons_zero, List.set_cons_succ])
  refine anyT_ready (rs := [19]) (by kernel_rfl) (by simp) ?_
  refine AllReadyT.cons rfl (fun K hK => ?_) AllReadyT.nil
  (try rw [if_pos (by rfl)])
  go_simp
  go_at_call 15
  refine (HR3.out _ hb8).mono ?_
  rintro e w9 ⟨A9, c9, rfl, r9, _, b9⟩
  have hb9 := hb8.trans (b9.mono hb8.size)
  clear b9
  (try go_wp2_with fail)
  refine hK.out _ _ (.inr (HQX.out _ hb9)) (fun _ => ?_)
  clear hK K
  (try simp only [List.getElem_toArray, List.getElem_cons_succ, List.getElem_cons_zero, Act.put, List.setIfInBounds_toArray, List.set_cons_zero, List.set_cons_succ])
  refine anyT_ready (rs := [22]) (by kernel_rfl) (by simp) ?_
  refine AllReadyT.cons rfl (fun K hK => ?_) AllReadyT.nil
  (try rw [if_pos (by rfl)])
  go_simp
  go_at_call 19
  refine (response_any x A c _ (HAA.out _ hb9) HXL).mono ?_
  rintro e w10 ⟨A10, c10, rfl, o10, b10⟩
  have hb10 := hb9.trans (b10.mono hb9.size)
  have r910 := r9.below b10
  have r10 := own_row o10
  clear r9 o10
  clear b10
  (try go_wp2_with fail)
  refine hK.out _ _ (.inr (HQX.out _ hb10)) (fun _ => ?_)
  clear hK K
  (try simp only [List.getElem_toArray, List.getElem_cons_succ, List.getElem_cons_zero, Act.put, List.setIfInBounds_toArray, List.set_cons_zero, List.set_cons_succ])
  refine anyT_ready (rs := [23]) (by kernel_rfl) (by simp) ?_
  refine AllReadyT.cons rfl (fun K hK => ?_) AllReadyT.nil
  (try rw [if_pos (by rfl)])
  go_simp
  go_at_call 14
  refine (sameR_any x A9 A10 c9 c10 _ r910 r10 HXL).mono ?_
  rintro e w11 ⟨rfl, b11⟩
  have hb11 := hb10.trans (b11.mono hb10.size)
  clear b11
  (try go_wp2_with fail)
  refine hK.out _ _ (.inr (HQX.out _ hb11)) (fun _ => ?_)
  clear hK K
  (try simp only [List.getElem_toArray, List.getElem_cons_succ, List.getElem_cons_zero, Act.put, List.setIfInBounds_toArray, List.set_cons_zero, List.set_cons_succ])
  refine' anyT_take (i := 24) (v := _) rfl (by kernel_rfl) (by kernel_rfl) (by kernel_rfl) (by kernel_rfl) (by rfl) (fun _ _ _ h => h) (Or.inl ⟨by rfl, ?h17y⟩) (HQX.out _ hb11) ?h17r
  case h17y => (intro w hSw; (try dsimp only at hSw); (try simp only [List.getElem_toArray, List.getElem_cons_succ, List.getElem_cons_zero]); go_simp; try (with_reducible rfl))
  (try simp only [List.getElem_toArray, List.getElem_cons_succ, List.getElem_cons_zero, Act.put, List.setIfInBounds_toArray, List.set_cons_zero, List.set_cons_succ])
  refine anyT_ready (rs := [25]) (by kernel_rfl) (by simp) ?_
  refine AllReadyT.cons rfl (fun K hK => ?_) AllReadyT.nil
  (try go_simp)
  refine hK.out _ _ (.inl (by rfl)) (fun _ => ?_)
  clear hK K
  (try simp only [List.getElem_toArray, List.getElem_cons_succ, List.getElem_cons_zero, Act.put, List.setIfInBounds_toArray, List.set_cons_zero, List.set_cons_succ])
  refine anyT_done (by kernel_rfl) ?_ _
  have HZ := Lib.hid (HEND.out _ hb11)
  go_wp2
  go_ret
  exact ⟨rfl, HZ.out⟩
end Go.Proofs.YtbnafbdhomdcoaaGreatDoor
