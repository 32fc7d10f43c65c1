/-
  CjN, TgB, CjF, without what the claim does not reach.
-/
import Derived.Test.YtbnafbdhomdcoaaGreatDoorZCjP
import Derived.Test.YtbnafbdhomdcoaaGreatDoorZm12
namespace Go.Proofs.YtbnafbdhomdcoaaGreatDoor
open Go.RowKit Go.Shelf Go.Lib
structure Keep (D : Nat → Prop) (w w' : World) : Prop where
 os : w'.os = w.os
 tape : w'.tape = w.tape
 output : w'.output = w.output
 size : w.heap.size ≤ w'.heap.size
 block : ∀ k, k < w.heap.size → ¬ D k → w'.heap[k]? = w.heap[k]?
section
variable {D : Nat → Prop} {w w' w2 : World}
theorem Keep.refl (D : Nat → Prop) (w : World) : Keep D w w := ⟨rfl, rfl, rfl, Nat.le_refl _, fun _ _ _ => rfl⟩
theorem Keep.trans (h : Keep D w w') (h2 : Keep D w' w2) : Keep D w w2 :=
 ⟨h2.os.trans h.os, h2.tape.trans h.tape, h2.output.trans h.output, Nat.le_trans h.size h2.size, fun k hk hn => (h2.block k (Nat.lt_of_lt_of_le hk h.size) hn).trans (h.block k hk hn)⟩
theorem Keep.of (hb : Below w.heap.size w w') : Keep D w w' := ⟨hb.os, hb.tape, hb.output, hb.size, fun k hk _ => hb.block k hk⟩
theorem Keep.step (h : Keep D w w') (hb : Below w'.heap.size w' w2) : Keep D w w2 := h.trans (Keep.of hb)
theorem Keep.ahead (hb : Below w.heap.size w w') (h : Keep D w' w2) : Keep D w w2 := (Keep.of hb).trans h
theorem Keep.drew (h : Keep D w w') : Keep D w w'.drew := ⟨h.os, h.tape, h.output, h.size, h.block⟩
theorem Keep.drewN (h : Keep D w w') (n : Nat) : Keep D w (w'.drewN n) := ⟨h.os, h.tape, h.output, h.size, h.block⟩
theorem Keep.alloc (h : Keep D w w') (o : Obj) : Keep D w (w'.alloc o) := h.step ((Below.refl _ w').alloc (Nat.le_refl _) o)
theorem Keep.setCell (h : Keep D w w') {p : Addr} (hp : w.heap.size ≤ p.block) (v : Value) : Keep D w (w'.setCell p v) := by
 have hb := (Below.refl w.heap.size w').setCell hp v
 exact ⟨hb.os.trans h.os, hb.tape.trans h.tape, hb.output.trans h.output, Nat.le_trans h.size hb.size, fun k hk hn => (hb.block k hk).trans (h.block k hk hn)⟩
theorem Keep.cell (h : Keep D w w') {p : Addr} (hp : p.block < w.heap.size) (hn : ¬ D p.block) : w'.cell? p = w.cell? p := World.cell?_of_block (h.block p.block hp hn)
theorem Keep.frozen (h : Keep D w w') {p : Addr} (hp : p.block < w.heap.size) (hn : ¬ D p.block) : w'.frozen? p = w.frozen? p := World.frozen?_of_block (h.block p.block hp hn)
theorem Keep.below (h : Keep (fun _ => False) w w') : Below w.heap.size w w' := ⟨h.os, h.tape, h.output, h.size, fun k hk => h.block k hk (fun h => h)⟩
end
def RowD (D : Nat → Prop) (w : World) (A : Option Addr) (xs : List Value) : Prop := 0 < xs.length → ∃ b off, A = some ⟨b, off, none⟩ ∧ b < w.heap.size ∧ ¬ D b ∧ ∀ j v, xs[j]? = some v → w.cell? ⟨b, off + j, none⟩ = some v
section
variable {D : Nat → Prop} {w w' : World} {A : Option Addr} {xs : List Value}
theorem RowD.row (h : RowD D w A xs) : Row w A xs := fun hl => by
 obtain ⟨b, off, e, hb, _, hc⟩ := h hl
 exact ⟨b, off, e, hb, hc⟩
theorem RowD.keep (h : RowD D w A xs) (hk : Keep D w w') : RowD D w' A xs := fun hl => by
 obtain ⟨b, off, e, hb, hd, hc⟩ := h hl
 exact ⟨b, off, e, Nat.lt_of_lt_of_le hb hk.size, hd, fun j v hv => (hk.cell (p := ⟨b, off + j, none⟩) hb hd).trans (hc j v hv)⟩
theorem RowD.below (h : RowD D w A xs) (hb : Below w.heap.size w w') : RowD D w' A xs := h.keep (Keep.of hb)
theorem RowD.of_own {base : Nat} {E : TypeId} {sz n c m : Nat} (h : w.ownsRow base E sz (.slice A n c) m xs) (hx : w.ownsRow base E sz (.slice A n c) n xs) (hD : ∀ k, D k → k < base) : RowD D w A xs := fun hl => by
 obtain ⟨b, off, e, hb, hc⟩ := own_row hx hl
 refine ⟨b, off, e, hb, fun hd => ?_, hc⟩
 have h1 := (h.lt b (by rw [e]; rfl)).1
 have h2 := hD b hd
 omega
theorem RowD.of_row (h : Row w A xs) : RowD (fun _ => False) w A xs := fun hl => by
 obtain ⟨b, off, e, hb, hc⟩ := h hl
 exact ⟨b, off, e, hb, fun h => h, hc⟩
theorem RowD.nil (D : Nat → Prop) (w : World) (A : Option Addr) : RowD D w A [] := fun h => absurd h (Nat.lt_irrefl _)
end
theorem own_keep {D : Nat → Prop} {w w' : World} {base : Nat} {E : TypeId} {sz n : Nat} {v : Value} {xs : List Value} (h : w.ownsRow base E sz v n xs) (hk : Keep D w w') (hD : ∀ k, D k → k < base) : w'.ownsRow base E sz v n xs := by
 obtain ⟨h1, h2⟩ := h
 refine ⟨h1, ?_⟩
 rcases h2 with h2 | ⟨g, cap, cur, hv, hg, hh, r⟩
 ·exact Or.inl h2
 ·refine Or.inr ⟨g, cap, cur, hv, hg, ?_, r⟩
  rw [hk.block g (Array.getElem?_eq_some_iff.1 hh).1 (fun hd => by have := hD g hd; omega)]
  exact hh
def Btw (w w1 : World) (k : Nat) : Prop := w.heap.size ≤ k ∧ k < w1.heap.size
def Out (D : Nat → Prop) (n0 : Nat) (w : World) (k : Nat) : Prop := D k ∨ (n0 ≤ k ∧ k < w.heap.size)
section
variable {D E : Nat → Prop} {w w' w1 w2 w3 : World}
theorem Keep.wider (h : Keep D w w') (hE : ∀ k, k < w.heap.size → D k → E k) : Keep E w w' := ⟨h.os, h.tape, h.output, h.size, fun k hk hn => h.block k hk (fun hd => hn (hE k hk hd))⟩
theorem Keep.btw' (h1 : Below w.heap.size w w1) (h2 : Below w1.heap.size w1 w2) (hi : Keep (Btw w1 w2) w3 w') {w4 : World} (ho : Keep (Btw w w1) w' w4) : Keep (Btw w w2) w3 w4 :=
 (hi.wider (fun _ _ hd => ⟨Nat.le_trans h1.size hd.1, hd.2⟩)).trans (ho.wider (fun _ _ hd => ⟨hd.1, Nat.lt_of_lt_of_le hd.2 h2.size⟩))
theorem RowD.narrow {A : Option Addr} {xs : List Value} (h : RowD D w A xs) (hE : ∀ k, E k → D k) : RowD E w A xs := fun hl => by
 obtain ⟨b, off, e, hb, hd, hc⟩ := h hl
 exact ⟨b, off, e, hb, fun he => hd (hE b he), hc⟩
theorem RowD.back {A : Option Addr} {xs : List Value} {n0 : Nat} (h : RowD (Out D n0 w1) w2 A xs) (hn : n0 ≤ w.heap.size) (hs : w.heap.size ≤ w1.heap.size) (hk : Keep (Btw w w1) w2 w') : RowD (Out D n0 w) w' A xs :=
 ((h.narrow (E := fun k => Out D n0 w k ∨ Btw w w1 k) (fun k hk => by
  rcases hk with (hd | ⟨h1, h2⟩) | ⟨h1, h2⟩
  ·exact .inl hd
  ·exact .inr ⟨h1, Nat.lt_of_lt_of_le h2 hs⟩
  ·exact .inr ⟨Nat.le_trans hn h1, h2⟩)).keep (hk.wider (fun k _ hd => .inr hd))).narrow (fun k hk => .inl hk)
theorem RowD.of_new {base n0 : Nat} {T : TypeId} {sz n c : Nat} {A : Option Addr} {xs : List Value} (h : w'.ownsRow base T sz (.slice A n c) n xs) (hl : ∀ k, D k → k < w.heap.size) (hb : w.heap.size ≤ base) : RowD (Out D n0 w) w' A xs :=
 RowD.of_own h h (fun k hk => by
  rcases hk with hd | ⟨_, h2⟩
  ·exact Nat.lt_of_lt_of_le (hl k hd) hb
  ·exact Nat.lt_of_lt_of_le h2 hb)
end
def rqV (r : Rq) (A : Option Addr) (c : Nat) (B : Option Addr) (d : Nat) : Value := .agg #[.string r.method, .string r.target, .int .i64 r.major, .int .i64 r.minor, .slice A r.fields.length c, .string r.body, .slice B r.trailers.length d]
def rsV (x : Rs) (A : Option Addr) (c : Nat) : Value := .agg #[.int .i64 x.status, .string x.reason, .slice A x.fields.length c, .string x.body]
def midV (m : Mid) (A : Option Addr) (c : Nat) : Value := .agg #[.int .i64 m.kind, .string m.name, .string m.value, .slice A m.list.length c, .int .i64 m.n]
structure FitQ (r : Rq) : Prop where
 method : r.method.size ≤ 1048576
 target : r.target.size ≤ 1048576
 fields : bulkF r.fields ≤ 1048576
 body : r.body.size ≤ maxLen
structure FitM (m : Mid) : Prop where
 name : m.name.size ≤ 1048576
 value : m.value.size ≤ 1048576
 list : (m.list.map fun s => s.size + 1).sum ≤ 1048576
 k0 : -9223372036854775808 ≤ m.kind
 k1 : m.kind ≤ 9223372036854775807
 n0 : -9223372036854775808 ≤ m.n
 n1 : m.n ≤ 9223372036854775807
structure FitS (N : Nat) (x : Rs) : Prop where
 many : x.fields.length ≤ N
 wide : Wide x.fields
theorem FitS.more {N M : Nat} {x : Rs} (h : FitS N x) (hm : N ≤ M) : FitS M x := ⟨Nat.le_trans h.many hm, h.wide⟩
abbrev Ans := Rq → World → Rs → Option Addr → Nat → World → Prop
def GivesX (D : Nat → Prop) (n0 N : Nat) (T : World → Rs → Option Addr → Nat → World → Prop) (w : World) (e : Ending) (w' : World) : Prop :=
 ∃ (x : Rs) (A : Option Addr) (c : Nat), e = .returned (rsV x A c) ∧ RowD (Out D n0 w) w' A (flat x.fields) ∧ FitS N x ∧ T w x A c w' ∧ Keep D w w'
structure Env (D : Nat → Prop) (Pre : World → Prop) (w0 : World) : Prop where
 low : ∀ k, D k → k < w0.heap.size
 glob : ∀ W, Keep D w0 W → GlobC W
 stays : ∀ W W', Keep D w0 W → Pre W → Below W.heap.size W W' → Pre W'
theorem Env.later {D : Nat → Prop} {Pre : World → Prop} {w0 w1 : World} (h : Env D Pre w0) (hk : Keep D w0 w1) : Env D Pre w1 :=
 ⟨fun k hd => Nat.lt_of_lt_of_le (h.low k hd) hk.size, fun W hW => h.glob W (hk.trans hW), fun W W' hW => h.stays W W' (hk.trans hW)⟩
def Nx (D : Nat → Prop) (Pre : World → Prop) (n0 N : Nat) (w0 : World) (f : Value) (T : Ans) : Prop :=
 ∃ (g : FuncId) (lb : Array Value), f = .func (.func g) #[] lb ∧ (∀ args w, (callFunc g args).run Tryz.prog w = .ok (.enter g args) w) ∧
  ∀ (W : World) (r : Rq) (FA : Option Addr) (fc : Nat) (TA : Option Addr) (tc : Nat), Keep D w0 W → Pre W → RowD D W FA (flat r.fields) → RowD D W TA (flat r.trailers) → FitQ r →
   Calls Tryz.prog g (#[rqV r FA fc TA tc] ++ lb) W (GivesX D n0 N (T r) W)
theorem Nx.later {D : Nat → Prop} {Pre : World → Prop} {n0 N : Nat} {w0 w1 : World} {f : Value} {T : Ans} (h : Nx D Pre n0 N w0 f T) (hk : Keep D w0 w1) : Nx D Pre n0 N w1 f T := by
 obtain ⟨g, lb, e, he, hc⟩ := h
 exact ⟨g, lb, e, he, fun W r FA fc TA tc hW => hc W r FA fc TA tc (hk.trans hW)⟩
def OwnF (w w' : World) (x : Rs) (A : Option Addr) (c : Nat) : Prop := w'.ownsRow w.heap.size 59 2 (.slice A x.fields.length c) x.fields.length (flat x.fields)
theorem OwnF.below {w w' w2 : World} {x : Rs} {A : Option Addr} {c : Nat} (h : OwnF w w' x A c) (hb : Below w'.heap.size w' w2) : OwnF w w2 x A c := own_below h hb
theorem OwnF.less {w w1 w' : World} {x : Rs} {A : Option Addr} {c : Nat} (h : OwnF w1 w' x A c) (hb : w.heap.size ≤ w1.heap.size) : OwnF w w' x A c := own_less h hb
def doT (m : Mid) (T : Ans) : Ans := fun r w x A c w' => match aheadP m r with
 | .inr o => x = o ∧ OwnF w w' x A c ∧ Below w.heap.size w w'
 | .inl q => ∃ w1 y A1 c1 w2, Below w.heap.size w w1 ∧ T q w1 y A1 c1 w2 ∧ x = behindP m r y ∧ Keep (Btw w w1) w2 w' ∧ (OwnF w w' x A c ∨ (x = y ∧ A = A1 ∧ c = c1))
theorem OwnF.keep {D : Nat → Prop} {w w' w2 : World} {x : Rs} {A : Option Addr} {c : Nat} (h : OwnF w w' x A c) (hk : Keep D w' w2) (hD : ∀ k, D k → k < w.heap.size) : OwnF w w2 x A c := own_keep h hk hD
theorem doT_wide {m : Mid} {T : Ans} {r : Rq} {w w1 w2 w3 : World} {x : Rs} {A : Option Addr} {c : Nat} (hb : Below w.heap.size w w1) (h : doT m T r w1 x A c w2) (hb2 : Keep (Btw w w1) w2 w3) : doT m T r w x A c w3 := by
 unfold doT at *
 cases ha : aheadP m r with
 | inr o =>
  rw [ha] at h
  obtain ⟨h1, h2, h3⟩ := h
  refine ⟨h1, (h2.keep hb2 (fun k hk => hk.2)).less hb.size, ?_⟩
  have h4 := hb2
  refine ⟨hb2.os.trans (h3.os.trans hb.os), hb2.tape.trans (h3.tape.trans hb.tape), hb2.output.trans (h3.output.trans hb.output), Nat.le_trans hb.size (Nat.le_trans h3.size hb2.size), fun k hk => ?_⟩
  rw [hb2.block k (Nat.lt_of_lt_of_le hk (Nat.le_trans hb.size h3.size)) (fun hd => by have := hd.1; omega), h3.block k (Nat.lt_of_lt_of_le hk hb.size), hb.block k hk]
 | inl q =>
  rw [ha] at h
  obtain ⟨v1, y, A1, c1, v2, g1, g2, g3, g4, g5⟩ := h
  refine ⟨v1, y, A1, c1, v2, hb.trans (g1.mono hb.size), g2, g3, Keep.btw' hb g1 g4 hb2, ?_⟩
  rcases g5 with h | h
  ·exact .inl ((h.keep hb2 (fun k hk => hk.2)).less hb.size)
  ·exact .inr h
def runT : List Mid → Ans → Ans
 | [], T => T
 | m :: l, T => if checkM m = true then doT m (runT l T) else runT l T
def Stretch (T : Ans) : Ans := fun r w x A c w' => ∃ w1 w2, Below w.heap.size w w1 ∧ T r w1 x A c w2 ∧ Keep (Btw w w1) w2 w'
theorem runT_simple {T : Ans} (F : Rq → Rs) (hT : ∀ r w x A c w', T r w x A c w' → x = F r) : ∀ (l : List Mid) {r : Rq} {w w' : World} {x : Rs} {A : Option Addr} {c : Nat}, runT l T r w x A c w' → x = runP l F r
 | [], _, _, _, _, _, _, h => hT _ _ _ _ _ _ h
 | m :: l, r, w, w', x, A, c, h => by
  unfold runT at h
  unfold runP
  by_cases hm : checkM m = true
  ·rw [if_pos hm] at h ⊢
   unfold doT at h
   unfold oneP
   cases ha : aheadP m r with
   | inr o =>
    rw [ha] at h
    exact h.1
   | inl q =>
    rw [ha] at h
    obtain ⟨_, y, _, _, _, _, g2, g3, _⟩ := h
    rw [g3, runT_simple F hT l g2]
  ·rw [if_neg hm] at h ⊢
   exact runT_simple F hT l h
theorem stretch_simple {T : Ans} (F : Rq → Rs) (hT : ∀ r w x A c w', T r w x A c w' → x = F r) (l : List Mid) {r : Rq} {w w' : World} {x : Rs} {A : Option Addr} {c : Nat} (h : Stretch (runT l T) r w x A c w') : x = runP l F r := by
 obtain ⟨w1, w2, _, h, _⟩ := h
 exact runT_simple F hT l h
def DoAt (m : Mid) (g : FuncId) : Prop :=
 (∀ args w, (callFunc g args).run Tryz.prog w = .ok (.enter g args) w) ∧
 ∀ (D : Nat → Prop) (Pre : World → Prop) (n0 N : Nat) (T : Ans) (f : Value) (w : World) (r : Rq) (A : Option Addr) (c : Nat) (FA : Option Addr) (fc : Nat) (TA : Option Addr) (tc : Nat),
  Env D Pre w → Pre w → Nx D Pre n0 N w f T → n0 ≤ w.heap.size → 8 ≤ N → N ≤ 1099511627776 → RowD D w A (m.list.map .string) → m.list.length ≤ c → RowD D w FA (flat r.fields) → RowD D w TA (flat r.trailers) → FitM m → FitQ r →
   Calls Tryz.prog g #[midV m A c, rqV r FA fc TA tc, f] w (GivesX D n0 (N + 2) (doT m T r) w)
end Go.Proofs.YtbnafbdhomdcoaaGreatDoor
namespace Go.Proofs.YtbnafbdhomdcoaaGreatDoor.T5
theorem wrongE_ne (s : ByteArray) (i : Nat) {o : Int} (h : o ≠ 0) : wrongE s i o ≠ 0 := by
 unfold wrongE
 split <;> omega
end Go.Proofs.YtbnafbdhomdcoaaGreatDoor.T5
namespace Go.Proofs.YtbnafbdhomdcoaaGreatDoor
open T5
theorem behind_path {t : Tg} {s : ByteArray} {i : Nat} (h : (behindR t s i).2.2 = 0) : (behindR t s i).1.form = t.form ∧ (behindR t s i).1.path = (if (s.extract i (endP s i)).size = 0 then slashT else s.extract i (endP s i)) := by
 unfold behindR at *
 split at h
 ·rename_i h1
  rw [if_pos h1]
  exact ⟨rfl, rfl⟩
 ·rename_i h1
  rw [if_neg h1]
  split at h
  ·rename_i h2
   rw [if_pos h2]
   split at h
   ·exact absurd h (wrongE_ne _ _ (by omega))
   ·rename_i h3
    rw [if_neg h3]
    exact ⟨rfl, rfl⟩
  ·exact absurd h (wrongE_ne _ _ (by omega))
theorem take_form {m s : ByteArray} (h : (parseT m s).2.2 = 0) (hf : (parseT m s).1.form = 1 ∨ (parseT m s).1.form = 2) : ∃ i, i ≤ s.size ∧ (parseT m s).1.path = (if (s.extract i (endP s i)).size = 0 then slashT else s.extract i (endP s i)) ∧ (((parseT m s).1.form = 1 ∧ i = 0) ∨ ((parseT m s).1.form = 2 ∧ 7 ≤ s.size ∧ i = endA s 7)) := by
 unfold parseT at *
 by_cases h0 : s.size = 0
 ·rw [if_pos h0] at h; cases h
 ·rw [if_neg h0] at h hf ⊢
  by_cases hm : m = connT
  ·rw [if_pos hm] at h hf
   unfold connR at h hf
   split at h
   ·rename_i h1
    rw [if_pos h1] at hf
    rcases hf with hf | hf <;> cases hf
   ·cases h
  ·rw [if_neg hm] at h hf ⊢
   by_cases h47 : bt s 0 = 47
   ·rw [if_pos h47] at h hf ⊢
    obtain ⟨g1, g2⟩ := behind_path h
    exact ⟨0, Nat.zero_le _, g2, .inl ⟨g1, rfl⟩⟩
   ·rw [if_neg h47] at h hf ⊢
    by_cases hs : s = starT ∧ m = optT
    ·rw [if_pos hs] at hf
     rcases hf with hf | hf <;> cases hf
    ·rw [if_neg hs] at h hf ⊢
     by_cases h7 : s.size < 7 ∨ lower (s.extract 0 7) ≠ httpT
     ·rw [if_pos h7] at h; cases h
     ·rw [if_neg h7] at h hf ⊢
      unfold absR at *
      split at h
      ·rename_i h1
       rw [if_pos h1]
       obtain ⟨g1, g2⟩ := behind_path h
       have h8 : 7 ≤ s.size := by
        rcases Nat.lt_or_ge s.size 7 with g | g
        ·exact absurd (.inl g) h7
        ·exact g
       exact ⟨endA s 7, (endA_spec h8).2.1, g2, .inr ⟨g1, h8, rfl⟩⟩
      ·cases h
theorem prefix_facts {v : ByteArray} (h : prefixOk v = true) : 2 ≤ v.size ∧ bt v 0 = 47 ∧ ¬ bt v (v.size - 1) = 47 := by
 unfold prefixOk at h
 rw [Bool.and_eq_true, decide_eq_true_eq, Bool.not_eq_true'] at h
 obtain ⟨h1, h2⟩ := h
 have hp : isPathB v = true := by
  cases hp : isPathB v
  ·unfold normR at h1; rw [hp] at h1; cases h1
  ·rfl
 have hp2 : 0 < v.size ∧ bt v 0 = 47 := by
  unfold isPathB at hp
  simp only [Bool.and_eq_true, decide_eq_true_eq] at hp
  exact ⟨hp.1, hp.2.1⟩
 have ht : ¬ bt v (v.size - 1) = 47 := by
  unfold tailB at h2
  intro h3
  rw [decide_eq_true hp2.1, decide_eq_true h3] at h2
  cases h2
 refine ⟨?_, hp2.2, ht⟩
 rcases Nat.lt_or_ge v.size 2 with g | g
 ·have : v.size - 1 = 0 := by omega
  rw [this] at ht
  exact absurd hp2.2 ht
 ·exact g
theorem isPre_iff {v s : ByteArray} : isPre v s = true ↔ v.size ≤ s.size ∧ s.extract 0 v.size = v := by simp [isPre]
theorem strip_place {v m s : ByteArray} (hv : prefixOk v = true) (h : stripOk v m s = true) : ∃ i : Nat, atP (parseT m s).1 s = (i : Int) ∧ i + (parseT m s).1.path.size ≤ s.size ∧ v.size ≤ (parseT m s).1.path.size ∧ i + (parseT m s).1.path.size = endP s i ∧ (parseT m s).1.path = s.extract i (i + (parseT m s).1.path.size) ∧ (((parseT m s).1.form = 1 ∧ i = 0) ∨ ((parseT m s).1.form = 2 ∧ 7 ≤ s.size ∧ i = endA s 7)) := by
 obtain ⟨v2, v0, _⟩ := prefix_facts hv
 unfold stripOk at h
 simp only [Bool.and_eq_true, Bool.or_eq_true, decide_eq_true_eq] at h
 obtain ⟨h1, hf, hp, _⟩ := h
 obtain ⟨i, hi, hpath, hw⟩ := take_form h1 hf
 rw [isPre_iff] at hp
 obtain ⟨p1, p2⟩ := hp
 have hz : ¬ (s.extract i (endP s i)).size = 0 := by
  intro h0
  rw [if_pos h0] at hpath
  rw [hpath] at p1
  have : slashT.size = 1 := rfl
  omega
 rw [if_neg hz] at hpath
 obtain ⟨e1, e2⟩ := endP_range hi
 have hsz : (parseT m s).1.path.size = endP s i - i := by rw [hpath, ext_size s e1 e2]
 have hsum : i + (parseT m s).1.path.size = endP s i := by omega
 have hb0 : bt (parseT m s).1.path 0 = 47 := by
  rw [← v0]
  conv => rhs; rw [← p2]
  rw [ext_bt _ (by omega), Nat.zero_add]
 refine ⟨i, ?_, by omega, p1, hsum, by rw [hsum]; exact hpath, hw⟩
 unfold atP
 rcases hw with ⟨hw, rfl⟩ | ⟨hw, h7, hie⟩
 ·rw [hw, if_neg (by omega)]; rfl
 ·rw [hw, if_pos rfl]
  obtain ⟨a1, a2, a3, a4⟩ := endA_spec (s := s) (i := 7) h7
  have hlt : i < s.size := by omega
  have hbi : bt s i = 47 := by
   rw [← hb0, hpath, ext_bt s (by omega), Nat.add_zero]
  have hs7 : (s.extract 7 s.size).size = s.size - 7 := ext_size s h7 (Nat.le_refl _)
  rw [findB_at (k := i - 7) (fun j _ hj => by
   show (!decide (bt (s.extract 7 s.size) j = 47)) = true
   rw [ext_bt s (by omega)]
   have := (a3 (7 + j) (by omega) (by omega)).1
   simpa using this) (by omega) (by rw [ext_bt s (by omega), show 7 + (i - 7) = i by omega]; exact hbi)]
  omega
theorem strip_size {v m s : ByteArray} (hv : prefixOk v = true) (h : stripOk v m s = true) : (stripT v m s).size ≤ s.size := by
 obtain ⟨i, h1, h2, h3, _, _, _⟩ := strip_place hv h
 obtain ⟨v2, _, _⟩ := prefix_facts hv
 unfold stripT
 rw [h1, Int.toNat_natCast, ByteArray.size_append, ByteArray.size_append, ext_size s (Nat.zero_le _) (by omega), ext_size s h2 (Nat.le_refl _)]
 have hr : (restP (parseT m s).1 v).size = (parseT m s).1.path.size - v.size := by
  unfold restP
  rw [ext_size _ h3 (Nat.le_refl _)]
 split
 ·have : slashV.size = 1 := rfl
  omega
 ·omega
end Go.Proofs.YtbnafbdhomdcoaaGreatDoor
