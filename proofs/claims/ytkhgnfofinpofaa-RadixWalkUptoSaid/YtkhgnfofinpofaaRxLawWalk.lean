/-
  The walk of RadixWalk.
-/
import Derived.Test.YtkhgnfofinpofaaRxWp
import Derived.Test.YtkhgnfofinpofaaRxLawChecks
import Derived.Shelf.RegionOpen
import Derived.Deep.RegionHeld3
import Derived.Laws.EntriesVeiled
namespace Go.Proofs.Ytkhgnfofinpofaa
open Go.RowKit Go.Shelf Go.Lib
attribute [local go_sem] Oper.semAt_some

theorem below_turn {q : Nat} {a b d : World} (h : Below a.heap.size a b) (ht : Turn q b d) (hq : a.heap.size ≤ q) : Below a.heap.size a d := h.trans (ht.below hq h.size)
/-- What holds while the first loop of RadixWalk counts. -/
def WkI (nb : Nat) (w6 : World) (k : Nat) (W : World) : Prop := Boxed W nb 3 (.int .i64 (k : Nat)) ∧ Turn nb w6 W
theorem turn_own {X B : Nat} {w6 W W' : World} {row : Option Nat} (h : Turn X w6 W) (hB : w6.heap.size ≤ B) (hg : W.grownBy W' row) (hr : ∀ r, row = some r → B ≤ r) : Turn X w6 W' :=
  ⟨hg.os.trans h.os, hg.tape.trans h.tape, hg.output.trans h.output, Nat.le_trans h.size hg.size, fun k hk h1 => (hg.block k (Nat.lt_of_lt_of_le hk h.size) (fun e => by have := hr k e.symm; omega)).trans (h.block k hk h1)⟩
theorem wkI_own {nb B : Nat} {w6 : World} (hB : w6.heap.size ≤ B) {β : Type} (f : β → Nat) : OwnFrom B (fun s W => WkI nb w6 (f s) W) := fun s W W' row hs hg hr =>
  ⟨hs.1.kept hg (fun e => by
    obtain ⟨_, o, ho, hc⟩ := hr nb e.symm
    rw [show W.heap[nb]? = _ from hs.1] at ho; cases ho; cases hc), turn_own hs.2 hB hg (fun r e => (hr r e).1)⟩
theorem turn_set {X : Nat} {w6 W : World} {v : Value} (h : Turn X w6 W) : Turn X w6 (W.setCell ⟨X, 0, none⟩ v) :=
  ⟨h.os, h.tape, h.output, by have := h.size; simpa using this, fun k hk h1 => (Below.heap_setCell W ⟨X, 0, none⟩ v k h1).trans (h.block k hk h1)⟩
theorem turn_alloc {X : Nat} {W W' : World} {o : Obj} (h : Turn X (W.alloc o) W') (hX : W.heap.size ≤ X) : Below W.heap.size W W' :=
  ((Below.refl W.heap.size W).alloc (Nat.le_refl _) o).trans (h.below hX (by simp))
/-- A turned block that is cells leaves all that is none. -/
theorem keeps_turn {X B : Nat} {W W' : World} (h : Turn X W W') (hX : CellB W X) : KeepsFrom B W W' :=
  ⟨h.size, fun k o _ hk ho => (h.block k (Array.getElem?_eq_some_iff.1 hk).1 (fun e => by
    subst e
    obtain ⟨o', ho', hc⟩ := hX
    rw [hk] at ho'; cases ho'; rw [ho] at hc; cases hc)).trans hk⟩
theorem keeps_below {B : Nat} {W W' : World} (h : Below W.heap.size W W') : KeepsFrom B W W' := ⟨h.size, fun k _ _ hk _ => (h.block k (Array.getElem?_eq_some_iff.1 hk).1).trans hk⟩
theorem keeps_low {X B : Nat} {W W' : World} (h : Turn X W W') (hX : X < B) : KeepsFrom B W W' := ⟨h.size, fun k o hB hk _ => (h.block k (Array.getElem?_eq_some_iff.1 hk).1 (by omega)).trans hk⟩
/-- What holds while RadixWalk goes over all, but for the tree. -/
structure Wo4 (w9 : World) (bx : Bxs) (ob : Nat) (S R : Nat → Prop) (KA : Option Addr) (kv : List Value) (k : Nat) (W : World) : Prop where
  bxs : AllBx W bx
  out : Boxed W ob 3 (.int .i64 (k : Nat))
  row : RowF R W KA kv
  hold : Hold S w9 W
section
variable {w9 W W' : World} {bx : Bxs} {ob k : Nat} {S R : Nat → Prop} {KA : Option Addr} {kv : List Value}
theorem Wo4.below (h : Wo4 w9 bx ob S R KA kv k W) (hb : Below W.heap.size W W') : Wo4 w9 bx ob S R KA kv k W' := ⟨h.bxs.below hb, h.out.kept ⟨hb.os, hb.tape, hb.output, hb.size, fun i hi _ => hb.block i hi⟩ (row := none) (fun e => by cases e), h.row.hold (Hold.of_below hb), h.hold.trans (Hold.of_below hb)⟩
theorem Wo4.turn {X : Nat} (h : Wo4 w9 bx ob S R KA kv k W) (ht : Turn X W W') (h1 : ∀ x ∈ bx, x.1 ≠ X) (h2 : ob ≠ X) (h3 : ¬ R X) (h4 : ¬ S X) : Wo4 w9 bx ob S R KA kv k W' := ⟨h.bxs.turn ht h1, (ht.block ob h.out.lt h2).trans h.out, h.row.hold (ht.hold h3), h.hold.trans (ht.hold h4)⟩
theorem Wo4.next (h : Wo4 w9 bx ob S R KA kv k W) (h1 : ∀ x ∈ bx, x.1 ≠ ob) (h3 : ¬ R ob) (h4 : ¬ S ob) : Wo4 w9 bx ob S R KA kv (k + 1) (W.setCell ⟨ob, 0, none⟩ (.int .i64 ((k : Nat) + 1))) :=
  ⟨h.bxs.set h1 _, by have h2 := h.out.set (.int .i64 ((k : Nat) + 1)); simpa using h2, h.row.set h3 _, h.hold.trans (Hold.of_grown (grownBy_setCell' W ob _) (fun b e => by cases e; exact h4))⟩
end
/-- What holds while RadixWalk goes over all, the tree changed meanwhile. -/
structure WoI (w0 w9 : World) (bx : Bxs) (ob q B : Nat) (V S R : Nat → Prop) (KA : Option Addr) (kv : List Value) (k : Nat) (W : World) : Prop where
  f : Wo4 w9 bx ob S R KA kv k W
  tree : ∃ es', WkE es' B ∧ Ko V w0 W q es' (B + 1025)
theorem woI_own {w0 w9 : World} {bx : Bxs} {ob q B N : Nat} {V S R : Nat → Prop} {KA : Option Addr} {kv : List Value} (hN : w0.heap.size ≤ N) (hS : ∀ b, S b → b < N) {β : Type} (f : β → Nat) : OwnFrom N (fun s W => WoI w0 w9 bx ob q B V S R KA kv (f s) W) := fun s W W' row hs hg hr => by
  have hr1 : ∀ r, row = some r → ∃ o : Obj, W.heap[r]? = some o ∧ o.isCells = false := fun r e => (hr r e).2
  obtain ⟨es', h1, h2⟩ := hs.tree
  refine ⟨⟨hs.f.bxs.own hg hr1, hs.f.out.kept hg (fun e => ?_), hs.f.row.keepOwn hg hr1, hs.f.hold.trans ⟨hg.size, fun b hb hl => hg.block b hl (fun e => by have := (hr b e.symm).1; have := hS b hb; omega)⟩⟩, ⟨es', h1, h2.own hg fun r e => ⟨by have := (hr r e).1; omega, hr1 r e⟩⟩⟩
  obtain ⟨o, ho, hc⟩ := hr1 ob e.symm
  rw [show W.heap[ob]? = _ from hs.f.out] at ho; cases ho; cases hc
def WxI (es : List En) (cc : Code) (pre : List (KM es)) (_ : World) : Prop := cc = .ret ∧ ¬ pre.map (fun z : KM es => z.1) <+: keptE es
theorem wxI_own (es : List En) (B : Nat) (cc : Code) : OwnFrom B (WxI es cc) := fun _ _ _ _ hs _ _ => hs
section
variable {F : Fence} {n : Nat} {P : Program} {w : World}
/-- The kit's law for a loop whose body is told of its record, its assignments as in the kit's elder form. -/
theorem wpIn_rangeFunc_recG {α : Type} {g : Operand} {ps : Array Tmp} {assign body : Code} {Q : Exit → Act → World → Prop} {a : Act}
    (hro : F.round = none) (h1 : 1 ≤ n) {gf : Nat} {lb : Array Value} (hg : a.eval g = .func (.func gf) #[] lb) (hFg : F.fn gf) (eg : ∀ args w, (callFunc gf args).run P w = .ok (.enter gf args) w)
    {encs : α → Array Value} {Kp : World → World → Prop} {S Sp : List α → Prop} {N : Nat} {w0 : World} (hseq : SeqStopsK F (n - 1) P gf lb encs Kp S Sp N w0)
    (hKt : ∀ {A B C : World}, Kp A B → Kp B C → Kp A C) (hKb : ∀ (W : World) (l : Nat) (o o' : Obj), w.heap.size ≤ l → W.heap[l]? = some o → o.isCells = false → o.isWalk = false → Kp W (W.putObj l o')) (hb0 : Below w0.heap.size w0 w) (hps : ∀ x, (encs x).size = ps.size)
    (I : List α → World → Prop) (Ix : Code → List α → World → Prop) (hI : OwnFrom w.heap.size I) (hIx : ∀ c, OwnFrom w.heap.size (Ix c)) (h0 : I [] w) (hKr : ∀ W, Kp W W) (a₁ : α → Act)
    (hassign : ∀ (l : Nat) (x : α) (W : World) (K : Act → World → Prop), K (a₁ x) W →
      assign.wpIn (F.inRound l) (n - 1 - 1) P (Exit.then K (fun _ _ _ => False)) { tmps := (ps.zip (encs x)).foldl (fun t (p, v) => t.setIfInBounds p v) a.tmps, defers := [] } W)
    (hbody : ∀ (l : Nat) (pre : List α) (x : α) (W : World), (∃ r, W.heap[l]? = some (.loop r)) → I pre W → pre.length < N → body.wpIn (F.inRound l) (n - 1 - 1) P (ownPostG w.heap.size Kp I Ix (pre ++ [x]) W) (a₁ x) W)
    (hdone : ∀ (D : Nat) (xs : List α) (W : World), w.heap.size ≤ D → S xs → I xs W → W.heap[D]? = some (.deferred (some [])) → Q .normal { a with defers := { target := .collected D, args := #[] } :: a.defers } W)
    (hstop : ∀ (D : Nat) (c : Code) (pre : List α) (W : World), w.heap.size ≤ D → Sp pre → Ix c pre W → W.heap[D]? = some (.deferred (some [])) → c.wpIn F n P Q { a with defers := { target := .collected D, args := #[] } :: a.defers } W) :
    (Code.rangeFunc g ps assign body).wpIn F n P Q a w :=
  wpIn_rangeFunc_ownH hro h1 hg hFg eg hseq (fun h k => hKt h k) hKb hb0 hps I Ix hI hIx h0 (fun x a' _ => a' = a₁ x) (fun _ _ _ _ _ _ hs _ _ => hs)
    (fun l pre x W K hi hK => hassign l x W K (hK _ _ (KeepsFrom.refl _ _) (hKr W) hi rfl)) (fun l pre x a' W _ hr hi e => by subst e; exact hbody l pre x W hr hi) hdone hstop
theorem wpIn_rangeFunc_recN {α : Type} {g : Operand} {ps : Array Tmp} {assign body : Code} {Q : Exit → Act → World → Prop} {a : Act}
    {l₀ : Nat} {r₀ : Loop} (hro : F.round = some l₀) (hl₀ : w.heap[l₀]? = some (.loop r₀)) (h1 : 1 ≤ n) {gf : Nat} {lb : Array Value} (hg : a.eval g = .func (.func gf) #[] lb) (hFg : F.fn gf) (eg : ∀ args w, (callFunc gf args).run P w = .ok (.enter gf args) w)
    {encs : α → Array Value} {Kp : World → World → Prop} {S Sp : List α → Prop} {N : Nat} {w0 : World} (hseq : SeqStopsK F (n - 1) P gf lb encs Kp S Sp N w0)
    (hKt : ∀ {A B C : World}, Kp A B → Kp B C → Kp A C) (hKb : ∀ (W : World) (l : Nat) (o o' : Obj), w.heap.size ≤ l → W.heap[l]? = some o → o.isCells = false → o.isWalk = false → Kp W (W.putObj l o')) (hb0 : Below w0.heap.size w0 w) (hps : ∀ x, (encs x).size = ps.size)
    (I : List α → World → Prop) (Ix : Code → List α → World → Prop) (hI : OwnFrom w.heap.size I) (hIx : ∀ c, OwnFrom w.heap.size (Ix c)) (h0 : I [] w) (hKr : ∀ W, Kp W W) (a₁ : α → Act)
    (hassign : ∀ (l : Nat) (x : α) (W : World) (K : Act → World → Prop), K (a₁ x) W →
      assign.wpIn (F.inRound l) (n - 1 - 1) P (Exit.then K (fun _ _ _ => False)) { tmps := (ps.zip (encs x)).foldl (fun t (p, v) => t.setIfInBounds p v) a.tmps, defers := [] } W)
    (hbody : ∀ (l : Nat) (pre : List α) (x : α) (W : World), I pre W → pre.length < N → body.wpIn (F.inRound l) (n - 1 - 1) P (ownPostG w.heap.size Kp I Ix (pre ++ [x]) W) (a₁ x) W)
    (hdone : ∀ (xs : List α) (W : World), S xs → I xs W → Q .normal a W)
    (hstop : ∀ (c : Code) (pre : List α) (W : World), Sp pre → Ix c pre W → c.wpIn F n P Q a W) :
    (Code.rangeFunc g ps assign body).wpIn F n P Q a w :=
  wpIn_rangeFunc_ownN hro hl₀ h1 hg hFg eg hseq (fun h k => hKt h k) hKb hb0 hps I Ix hI hIx h0 (fun x a' _ => a' = a₁ x) (fun _ _ _ _ _ _ hs _ _ => hs)
    (fun l pre x W K hi hK => hassign l x W K (hK _ _ (KeepsFrom.refl _ _) (hKr W) hi rfl)) (fun l pre x a' W _ _ hi e => by subst e; exact hbody l pre x W hi) hdone hstop
end
theorem walk_mis {es : List En} {pre : List (KM es)} {x : KM es} {y : KV} (hy : (keptE es)[pre.length]? = some y) (h : x.1 ≠ y) : ¬ (pre ++ [x]).map (·.1) <+: keptE es := fun hp => by
  obtain ⟨t, ht⟩ := hp
  rw [List.map_append] at ht
  have h1 : (keptE es)[pre.length]? = some x.1 := by
    have h2 : (pre.map (·.1) ++ [x].map (·.1) ++ t)[pre.length]? = (keptE es)[pre.length]? := by rw [ht]
    rw [← h2, List.append_assoc, List.getElem?_append_right (by rw [List.length_map]; exact Nat.le_refl _)]
    simp
  rw [hy] at h1
  exact h (Option.some.inj h1).symm
theorem all_len {es : List En} {ys : List (KM es)} (h : ys.map (·.1) = keptE es) : ys.length = es.length := by rw [← keptE_length es, ← h, List.length_map]
set_option maxRecDepth 100000 in
set_option maxHeartbeats 8000000 in
theorem RadixWalk_walk (A : Option Addr) (c : Nat) (l : List ByteArray) (leave : Int) (w : World) (hr : Row w A (l.map .string)) (_hn : -9223372036854775808 ≤ leave ∧ leave ≤ 9223372036854775807) (hk : (sumS l + l.length) + 0 ≤ 1048576) (hg : Glob w) :
    Calls Try.prog 7 #[.slice A l.length c, .int .i64 leave] w fun e w' => e = .returned (.bool true) ∧ Below w.heap.size w w' := by
  have hfn : ∀ (b : Nat) (w : World), (binOp .eql 53 (.func (.func 47) #[] #[.pointer (some ⟨b, 0, none⟩)]) .nilFunc).run Try.prog w = .ok (.bool false) w := fun _ _ => rfl
  have hmix : Try.prog.follows .mixedOrders = true := by kernel_rfl
  have b0 : Below w.heap.size w ((w.alloc (.cells #[.int .i64 leave] 3)).alloc (.cells #[.bool false] 4)) := ((Below.refl _ w).alloc (Nat.le_refl _) _).alloc (by simp) _
  have HN := Lib.hid (NewO w _ b0 (fun b => b = w.heap.size ∨ b = w.heap.size + 1) (by rintro b (rfl | rfl) <;> simp only [World.size_alloc] <;> omega))
  have x1 := (Boxed.new w 3 (.int .i64 leave)).alloc (.cells #[.bool false] 4)
  have x2 := Boxed.new (w.alloc (.cells #[.int .i64 leave] 3)) 4 (.bool false)
  simp only [World.size_alloc] at HN x2
  have HG := Lib.hid hg
  have HR := Lib.hid hr
  have HTL := Lib.hid (sumO_take_le l)
  have hll : l.length ≤ 1048576 := by omega
  have HSL := Lib.hid (show sumS l + l.length ≤ 1048576 by omega)
  clear hg hr hk b0
  refine (callsIn_wide (n := 8)).1 ?_
  refine callsIn_of_wp_marks Try.func7 rfl trivial ?_ rfl
  simp only [Try.ntmps7, List.size_toArray, List.length_cons, List.length_nil, Nat.reduceAdd, Nat.reduceSub, Array.replicate_succ, Array.replicate_zero, List.push_toArray, List.append_toArray, List.nil_append, List.cons_append]
  gi_wp2_with fail
  refine ⟨trivial, (callsIn_wide.2 HN.out).mono ?_⟩
  rintro e w1 ⟨rfl, hK1, hb1, hz1⟩
  have x11 := x1.kept (below_grown (by simpa using hb1)) (fun e => by cases e)
  have x21 := x2.kept (below_grown (by simpa using hb1)) (fun e => by cases e)
  have x12 := x11.alloc (.cells #[.pointer (some ⟨w.heap.size + 1 + 1 + 1, 0, none⟩)] 23)
  have x22 := x21.alloc (.cells #[.pointer (some ⟨w.heap.size + 1 + 1 + 1, 0, none⟩)] 23)
  have x32 := Boxed.new w1 23 (.pointer (some ⟨w.heap.size + 1 + 1 + 1, 0, none⟩))
  have hA1 := hK1.kv.kp.base
  clear HN x1 x2 x11 x21 hb1
  gi_wp2_with fail
  refine ⟨trivial, (callsIn_wide.2 (awake_any _ (HG.out.beyond (hA1.alloc hA1.size _)))).mono ?_⟩
  rintro e w2 ⟨rfl, hb2⟩
  have x13 := x12.kept (below_grown hb2) (fun e => by cases e)
  have x23 := x22.kept (below_grown hb2) (fun e => by cases e)
  have x33 := x32.kept (below_grown hb2) (fun e => by cases e)
  have B13 : Below w1.heap.size w1 w2 := ((Below.refl _ w1).alloc (Nat.le_refl _) _).trans (hb2.mono (by simp))
  have s2 : w1.heap.size + 1 ≤ w2.heap.size := by have := hb2.size; rwa [World.size_alloc] at this
  obtain ⟨la, hla⟩ : ∃ n, n = w.heap.size := ⟨_, rfl⟩
  rw [hz1] at x33
  obtain ⟨ta, hta⟩ : ∃ n, n = w.heap.size + 1 + 1 + 2 := ⟨_, rfl⟩
  obtain ⟨lb, hlb⟩ : ∃ n, n = w2.heap.size + 1 := ⟨_, rfl⟩
  obtain ⟨q, hq⟩ : ∃ n, n = w.heap.size + 1 + 1 + 1 := ⟨_, rfl⟩
  have hK2 : Ko (fun b => b = la ∨ b = la + 1 ∨ b = ta ∨ b = lb) w ((w2.alloc (.cells #[] 32)).alloc (.cells #[.slice (some ⟨w2.heap.size, 0, none⟩) 0 0] 26)) q [] 0 := by
    rw [hq]
    refine hK1.away ((B13.alloc B13.size _).alloc (by have := B13.size; simp; omega) _) fun b hb => ?_
    simp only [World.size_alloc]
    rcases hb with rfl | rfl | rfl | rfl <;> omega
  obtain ⟨bx, hbx⟩ : ∃ bx : Bxs, bx = [(la, 3, .int .i64 leave), (la + 1, 4, .bool false), (ta, 23, .pointer (some ⟨q, 0, none⟩))] := ⟨_, rfl⟩
  have hX2 : AllBx ((w2.alloc (.cells #[] 32)).alloc (.cells #[.slice (some ⟨w2.heap.size, 0, none⟩) 0 0] 26)) bx := by
    intro x hx
    rw [hbx] at hx
    simp only [List.mem_cons, List.not_mem_nil, or_false] at hx
    rcases hx with rfl | rfl | rfl
    · rw [hla]; exact (x13.alloc _).alloc _
    · rw [hla]; exact (x23.alloc _).alloc _
    · rw [hta, hq]; exact (x33.alloc _).alloc _
  have hl2 := Boxed.new (w2.alloc (.cells #[] 32)) 26 (.slice (some ⟨w2.heap.size, 0, none⟩) 0 0)
  rw [World.size_alloc, ← hlb] at hl2
  have hap : la + 3 = q ∧ q < ta ∧ ta < lb ∧ w.heap.size = la := by omega
  have HX2 := Lib.hid hX2
  have HL2 := Lib.hid hl2
  have HK2 := Lib.hid hK2
  rw [← hta, ← hq, ← hla]
  have HAP := Lib.hid hap
  have HBX := Lib.hid hbx
  clear hla hta hq hap hbx hK1 x12 x13 x22 x23 x32 x33 hA1 hb2 B13 hX2 hl2 hK2 s2 hz1
  gi_wp2
  rw [← hlb]
  clear hlb
  gi_loopw [7] (fun i wr => ∃ (k : Nat) (es : List En) (KA : Option Addr) (kc : Nat), k ≤ l.length ∧ i = .int .i64 (k : Int) ∧ Hid (AllBx wr bx) ∧ Hid (Boxed wr lb 26 (.slice KA es.length kc)) ∧ Hid (RowF (fun b => b ≠ q ∧ ¬ (b = la ∨ b = la + 1 ∨ b = ta ∨ b = lb)) wr KA (flatKV (keptE es))) ∧ Hid (Ko (fun b => b = la ∨ b = la + 1 ∨ b = ta ∨ b = lb) w wr q es (sumS (l.take k) + k))) (fun i _ => l.length - (RowKit.intOf i).toNat)
  case atStart => exact ⟨0, [], _, _, by omega, rfl, HX2, HL2, Lib.hid (fun h => absurd h (Nat.lt_irrefl 0)), HK2⟩
  case round =>
    obtain ⟨k, es, KA, kc, hkl, rfl, HX, HL, HW, HK⟩ := hrel
    clear HX2 HL2 HK2
    have hcl := HL.out.cell
    have hfl := HL.out.frozen
    have hct : wr.cell? ⟨ta, 0, none⟩ = some (.pointer (some ⟨q, 0, none⟩)) := (HX.out (ta, 23, .pointer (some ⟨q, 0, none⟩)) (by rw [HBX.out]; simp)).cell
    by_cases hlt : k < l.length
    · obtain ⟨x, hx⟩ := some_of_lt hlt
      have hkI : (k : Int) < (l.length : Int) := by omega
      obtain ⟨b, off, rfl, hb, hc0⟩ := HR.out.str hx
      have hc := (HK.out.kv.kp.base.cell (p := ⟨b, off + k, none⟩) hb).trans hc0
      have hst := sumO_take hx
      have h1 := HTL.out k
      have h2 := HTL.out (k + 1)
      have hsl := HSL.out
      have hxz := sumS_mem (List.mem_of_getElem? hx)
      have hsum := HK.out.kv.kp.sum
      have hel := sumE_len es
      have hap := HAP.out
      have HI := Lib.hid (fun W (h : Below wr.heap.size wr W) => InsertO _ w W q es _ x (k : Int) (HK.out.below h) (by omega))
      have HKI := Lib.hid (fun W (h : Row W KA (flatKV (keptE es))) => rInsert_any KA kc es x (k : Int) W h HK.out.kv.kp.good (by omega) (fun y hy => by have := sumE_mem hy; omega) (by omega))
      have HST := Lib.hid hst
      have HBS := Lib.hid (fun W (h : Turn q wr W) => below_turn HK.out.kv.kp.base h (by omega))
      clear hx hst h1 h2 hxz hsum hel hap
      gi_wp2_with fail
      refine wpIn_mono (Q := NoPanic _) ?_ NoPanic.imp
      gi_region_with_o (refine ⟨trivial, ?_⟩; gi_at_call 12; refine (callsIn_wide.2 (HI.out _ (by first | exact Below.refl _ _ | exact Below.drew (Below.refl _ _)))).mono ?_; rintro e w3 ⟨code, es', rfl, hto, hK3, ht3⟩)
      all_goals
        rw [← HST.out] at hK3
        have hap := HAP.out
        replace ht3 := turn_undrew ht3
        have hX3 := HX.out.turn ht3 (by rw [HBX.out]; intro y hy; simp only [List.mem_cons, List.not_mem_nil, or_false] at hy; rcases hy with rfl | rfl | rfl <;> simp only [] <;> omega)
        have hL3 : Boxed _ lb 26 (.slice KA es.length kc) := (ht3.block lb HL.out.lt (by omega)).trans HL.out
        have hW3 := HW.out.hold (ht3.hold (fun h => h.1 rfl))
        have hc3 := (hK3.kv.kp.base.cell (p := ⟨b, off + k, none⟩) hb).trans hc0
        have hcl3 := hL3.cell
        have hfl3 := hL3.frozen
        have hqs := hK3.kv.kp.lt
        have hbs := Nat.lt_of_lt_of_le hb hK3.kv.kp.base.size
        have hlls := hL3.lt
        have hz3 : la + 3 < lb ∧ ta < lb := by omega
        clear ht3 HX HL HW HK HI HBS hc hcl hfl hct hap
        refine NoPanic.normal ?_
        gi_wp2_with fail
        refine wpIn_mono (Q := NoPanic _) ?_ NoPanic.imp
        gi_region_with_o (refine ⟨trivial, ?_⟩; gi_at_call 13; refine (callsIn_wide.2 (HKI.out _ (by first | exact hW3.row | exact hW3.row.below (Below.drew (Below.refl _ _))))).mono ?_; intro e w4 hki; obtain ⟨KA', kc', f, rfl, hrow, hb4⟩ := rIns_as hto hki (S := fun b => b ≠ q ∧ ¬ (b = la ∨ b = la + 1 ∨ b = ta ∨ b = lb)) (by first | exact hW3 | exact hW3.hold (Hold.of_below (Below.drew (Below.refl _ _)))) (fun b hb => by simp at hb; omega); have hcl4 := (hb4.cell (p := ⟨lb, 0, none⟩) (by simpa using hlls)).trans hcl3; have hfl4 := (hb4.frozen (p := ⟨lb, 0, none⟩) (by simpa using hlls)).trans hfl3)
        all_goals
          replace hb4 := below_undrew hb4
          have hX5 := (hX3.below hb4).set (X := lb) (by rw [HBX.out]; intro y hy; simp only [List.mem_cons, List.not_mem_nil, or_false] at hy; rcases hy with rfl | rfl | rfl <;> simp only [] <;> omega) (.slice KA' es'.length kc')
          have hL5 := (hL3.kept (below_grown hb4) (fun e => by cases e)).set (.slice KA' es'.length kc')
          have hW5 := hrow.set (X := lb) (fun h => h.2 (.inr (.inr (.inr rfl)))) (.slice KA' es'.length kc')
          have hwlb : w.heap.size ≤ lb := by have := HAP.out; omega
          have hK5 := (hK3.below hb4).set (X := lb) (.inr (.inr (.inr rfl))) hwlb (.slice KA' es'.length kc')
          have HX5 := Lib.hid hX5
          have HL5 := Lib.hid hL5
          have HW5 := Lib.hid hW5
          have HK5 := Lib.hid hK5
          clear hX3 hL3 hW3 hK3 hb4 hX5 hL5 hW5 hK5 hrow hto hki hc3 hcl3 hfl3 hcl4 hfl4 hwlb hqs hbs hlls hz3 HKI
          refine NoPanic.normal ?_
          gi_wp2
          go_roundw
          case rel => exact ⟨k + 1, es', KA', kc', by omega, by go_num, HX5, HL5, HW5, HK5⟩
          case measure => simp [RowKit.intOf]; omega
    · obtain rfl : k = l.length := by omega
      obtain ⟨xo, rfl⟩ : ∃ xo : World, xo = wr := ⟨_, rfl⟩
      have hap := HAP.out
      have hKe := HK.out
      rw [List.take_length] at hKe
      have hsl := HSL.out
      have hsum := hKe.kv.kp.sum
      have hel := sumE_len es
      have hell : es.length ≤ 1048576 := by omega
      have HAL := Lib.hid (fun W (h : Below xo.heap.size xo W) => AllK (w := W) (hKe.kv.kp.below h) (by omega))
      have HWK := Lib.hid (show WkE es (sumS l + l.length) from WkE.start hKe.kv.kp.good hsum)
      have hz0 : lb < xo.heap.size := HL.out.lt
      clear hap hsum hel hcl hfl HK
      gi_wp2_with fail
      refine ⟨trivial, (callsIn_wide.2 (HAL.out _ (Below.refl _ _))).mono ?_⟩
      rintro e w5 ⟨A5, c5, rfl, b5, hl5, hc5, hr5⟩
      obtain ⟨W6, hW6⟩ : ∃ W6 : World, W6 = (w5.alloc (.cells #[.func (.func 47) #[] #[.pointer (some ⟨xo.heap.size, 0, none⟩)]] 53)).alloc (.cells #[.int .i64 0] 3) := ⟨_, rfl⟩
      have hz6 : W6.heap.size = w5.heap.size + 1 + 1 := by rw [hW6]; simp
      have b6 : Below w5.heap.size w5 W6 := by rw [hW6]; exact ((Below.refl _ w5).alloc (Nat.le_refl _) _).alloc (by simp) _
      have b56 : Below xo.heap.size xo W6 := b5.trans (b6.mono b5.size)
      have xa : Boxed W6 w5.heap.size 53 (.func (.func 47) #[] #[.pointer (some ⟨xo.heap.size, 0, none⟩)]) := by rw [hW6]; exact (Boxed.new w5 _ _).alloc _
      have xn : Boxed W6 (w5.heap.size + 1) 3 (.int .i64 0) := by
        have h := Boxed.new (w5.alloc (.cells #[.func (.func 47) #[] #[.pointer (some ⟨xo.heap.size, 0, none⟩)]] 53)) 3 (.int .i64 0)
        rw [World.size_alloc] at h
        rw [hW6]; exact h
      obtain ⟨bx2, hbx2⟩ : ∃ b : Bxs, b = (w5.heap.size, 53, .func (.func 47) #[] #[.pointer (some ⟨xo.heap.size, 0, none⟩)]) :: (lb, 26, .slice KA es.length kc) :: bx := ⟨_, rfl⟩
      have hX6 : AllBx W6 bx2 := by
        rw [hbx2]
        exact AllBx.cons xa (AllBx.cons (HL.out.kept (below_grown b56) (fun e => by cases e)) (HX.out.below b56))
      have hc6 := (b6.cell (p := ⟨xo.heap.size, 0, none⟩) hl5).trans hc5
      have hr6 : RowF (fun b => xo.heap.size ≤ b ∧ b < w5.heap.size) W6 A5 (flatE es) := fun h0 => by
        obtain ⟨b, off, e, h1, h2, h3⟩ := hr5 h0
        exact ⟨b, off, e, ⟨h1, h2⟩, by omega, fun j v hj => (b6.cell (p := ⟨b, off + j, none⟩) h2).trans (h3 j v hj)⟩
      have hW6r := (HW.out.mono (S' := fun b => b ≠ q ∧ ¬ (b = la ∨ b = la + 1 ∨ b = ta ∨ b = lb) ∧ b < xo.heap.size) (fun b h1 h2 => ⟨h1.1, h1.2, h2⟩)).hold (Hold.of_below b56)
      have hKx := hKe.away (V' := fun b => (b = la ∨ b = la + 1 ∨ b = ta ∨ b = lb) ∨ (xo.heap.size ≤ b ∧ b < W6.heap.size)) b56 (fun b hb => by
        have hap := HAP.out
        rcases hb with hb | hb
        · exact ⟨.inl hb, by have := hKe.off hb; have := b56.size; omega⟩
        · exact ⟨.inr hb.1, hb.2⟩)
      obtain ⟨Bn, hBn⟩ : ∃ n, n = xo.heap.size := ⟨_, rfl⟩
      obtain ⟨ab, hab⟩ : ∃ n, n = w5.heap.size := ⟨_, rfl⟩
      have hlt0 : lb < Bn ∧ Bn < ab ∧ W6.heap.size = ab + 1 + 1 := by omega
      have HX6 := Lib.hid hX6
      have HKx := Lib.hid hKx
      have HW6 := Lib.hid hW6r
      have HXN := Lib.hid xn
      have HC6 := Lib.hid hc6
      have HR6 := Lib.hid hr6
      have HZ := Lib.hid hlt0
      have HBX2 := Lib.hid hbx2
      have hcab := xa.cell
      rw [← hBn] at HC6 HR6 HKx HBX2 hcab hW6 HW6
      rw [← hab] at HR6 HXN HBX2 hcab
      rw [← hBn]
      clear hbx2 hc5 hr5 hl5 hW6r hc6 hr6 hX6 xa xn HX HL HW HAL b5 b6 b56 hKe hKx hBn hlt0 hz0 hz6
      gi_wp2_with fail
      rw [← hW6, ← hab]
      clear hab hW6 hct hcab
      have hlv : W6.cell? ⟨la, 0, none⟩ = some (.int .i64 leave) := (HX6.out (la, 3, .int .i64 leave) (by rw [HBX2.out, HBX.out]; simp)).cell
      have hz := HZ.out
      have hap := HAP.out
      refine (fun (rest : ∀ (D : Nat) (W : World), W6.heap.size ≤ D → Turn (ab + 1) W6 W → W.heap[D]? = some (.deferred (some [])) → _) =>
        wpIn_rangeFunc_ownG rfl (by omega) (gf := 47) (lb := #[.pointer (some ⟨Bn, 0, none⟩)]) rfl trivial (enters_of Try.func47 (by kernel_rfl) rfl)
          (all1_mem (fun b => Bn ≤ b ∧ b < ab) (8 - 1) (by omega) Bn A5 c5 es (by omega) W6 (by omega) HC6.out HR6.out (fun b h => by omega)) (fun h k => h.trans k) (hold_putObj (fun b h => h.2) (by omega)) (Below.refl _ _) (fun _ => rfl)
          (fun pre W => WkI (ab + 1) W6 pre.length W)
          (fun cc _ W => Turn (ab + 1) W6 W ∧ cc = .exit 2)
          (wkI_own (Nat.le_refl _) _) (fun cc _ W W' row hs hg hr => ⟨turn_own hs.1 (Nat.le_refl _) hg (fun r e => (hr r e).1), hs.2⟩) ⟨HXN.out, Turn.refl _ _⟩ ?_ ?assign ?body (fun D ys W hD _ hI hK => rest D W hD hI.2 hK) (fun D cc pre W hD _ hI hK => ?stop)) ?rest
      case assign =>
        intro l x W K hK
        gi_wp2
        exact hK
      case body =>
        rintro l' pre x W ⟨hb, ht⟩ hlt2
        have hc1 := hb.cell
        have hf1 := hb.frozen
        have hc2 : W.cell? ⟨la, 0, none⟩ = some (.int .i64 leave) := (World.cell?_of_block (a := ⟨la, 0, none⟩) (ht.block la (by omega) (by omega))).trans hlv
        have hpl : pre.length ≤ 1048576 := by omega
        have hab := hb.lt
        have hko := (KeepsOthers.setCell W ⟨ab + 1, 0, none⟩ (.int .i64 ((pre.length : Nat) + 1))).from W6.heap.size
        have hh : Hold (fun b => Bn ≤ b ∧ b < ab) W (W.setCell ⟨ab + 1, 0, none⟩ (.int .i64 ((pre.length : Nat) + 1))) := Hold.of_grown (grownBy_setCell' W (ab + 1) _) (fun b e k => by cases e; omega)
        have hb2 := hb.set (.int .i64 ((pre.length : Nat) + 1))
        have ht2 := turn_set (v := .int .i64 ((pre.length : Nat) + 1)) ht
        have HE := Lib.hid (And.intro (And.intro hko hh) (And.intro hb2 ht2))
        have HT := Lib.hid ht
        clear hb ht hko hh hb2 ht2
        by_cases hq : ((pre.length : Nat) : Int) = leave
        · have hq2 : (((pre.length : Nat) : Int) == leave) = true := by simpa using hq
          clear hq
          gi_wp2
          exact ⟨KeepsFrom.refl _ _, HT.out, rfl⟩
        · have hq2 : (((pre.length : Nat) : Int) == leave) = false := by simpa using hq
          clear hq
          gi_wp2
          refine ⟨by first | exact HE.out.1.1 | (have h := HE.out.1.1; rw [hz.2.2] at h; exact h), HE.out.1.2, ?_, HE.out.2.2⟩
          have h := HE.out.2.1
          simpa using h
      case stop =>
        obtain ⟨h1, rfl⟩ := hI
        exact wpIn_exit (rest D W hD h1 hK)
      case rest =>
        intro D W hD ht hK
        have hX7 := HX6.out.turn ht (fun y hy => by
          rw [HBX2.out, HBX.out] at hy
          simp only [List.mem_cons, List.not_mem_nil, or_false] at hy
          rcases hy with rfl | rfl | rfl | rfl | rfl <;> simp only [] <;> omega)
        have hW7 := HW6.out.hold (ht.hold (fun h => by omega))
        have hK7 := HKx.out.turn (.inr ⟨by omega, by omega⟩) ht (by omega)
        have hh7 := ht.hold (S := fun b => Bn ≤ b ∧ b < ab) (fun h => by omega)
        have hc7 := (hh7.cell (p := ⟨Bn, 0, none⟩) ⟨Nat.le_refl _, by show Bn < ab; omega⟩ (by show Bn < W6.heap.size; omega)).trans HC6.out
        have hr7 := HR6.out.hold hh7
        have hz7 := ht.size
        obtain ⟨W9, hW9⟩ : ∃ W9 : World, W9 = W.alloc (.cells #[.int .i64 0] 3) := ⟨_, rfl⟩
        have b9 : Below W.heap.size W W9 := by rw [hW9]; exact (Below.refl _ W).alloc (Nat.le_refl _) _
        have s9 : W9.heap.size = W.heap.size + 1 := by rw [hW9]; simp
        have xo9 : Boxed W9 W.heap.size 3 (.int .i64 0) := by rw [hW9]; exact Boxed.new W _ _
        obtain ⟨ob, hob⟩ : ∃ n, n = W.heap.size := ⟨_, rfl⟩
        have hX9 := hX7.below b9
        have hr9 := hr7.hold (Hold.of_below b9)
        have hc9 := (b9.cell (p := ⟨Bn, 0, none⟩) (by show Bn < _; omega)).trans hc7
        have hW9r := hW7.hold (Hold.of_below b9)
        have hKD := (b9.block D (Array.getElem?_eq_some_iff.1 hK).1).trans hK
        have hDW : D < W.heap.size := (Array.getElem?_eq_some_iff.1 hK).1
        have hr9b := hr9.mono (S' := fun b => (Bn ≤ b ∧ b < ab) ∨ b = D) (fun b h _ => .inl h)
        have hK9 := hK7.away (V' := fun b => (b = la ∨ b = la + 1 ∨ b = ta ∨ b = lb) ∨ (Bn ≤ b ∧ b < W6.heap.size) ∨ b = ob) b9 (fun b hb => by
          rcases hb with hb | hb | hb
          · exact ⟨.inl (.inl hb), by omega⟩
          · exact ⟨.inl (.inr hb), by omega⟩
          · exact ⟨.inr (by omega), by omega⟩)
        have hcab : W9.cell? ⟨ab, 0, none⟩ = some (.func (.func 47) #[] #[.pointer (some ⟨Bn, 0, none⟩)]) := (hX9 (ab, 53, .func (.func 47) #[] #[.pointer (some ⟨Bn, 0, none⟩)]) (by rw [HBX2.out]; simp)).cell
        have hcW : W.cell? ⟨ab, 0, none⟩ = some (.func (.func 47) #[] #[.pointer (some ⟨Bn, 0, none⟩)]) := (hX7 (ab, 53, .func (.func 47) #[] #[.pointer (some ⟨Bn, 0, none⟩)]) (by rw [HBX2.out]; simp)).cell
        have hlW : ab < W.heap.size := by omega
        have hob9 : W6.heap.size ≤ ob ∧ W9.heap.size = ob + 1 := by omega
        have HX9 := Lib.hid hX9
        have HX0 := Lib.hid xo9
        have HK9 := Lib.hid hK9
        have HW9 := Lib.hid hW9r
        have HC9 := Lib.hid hc9
        have HR9 := Lib.hid hr9b
        have hDW2 : D < ob := by omega
        have HKD := Lib.hid hKD
        have HZ9 := Lib.hid (And.intro hob9 (And.intro hD hDW2))
        have HFOLD := Lib.hid hW9
        rw [← hob] at HX0
        clear hz hap hX7 hW7 hK7 hh7 hc7 hr7 hz7 b9 s9 xo9 hX9 hr9 hr9b hc9 hW9r hKD hDW hDW2 hK9 hob9 hD hK ht hlv HX6 HKx HW6 HXN HC6 HR6 hW9
        gi_wp2_with fail
        rw [← HFOLD.out, ← hob]
        clear hob hcW hlW HFOLD
        have hz := HZ.out
        have hap := HAP.out
        have hz9 := HZ9.out
        refine wpIn_rangeFunc_recG rfl (by omega) (gf := 47) (lb := #[.pointer (some ⟨Bn, 0, none⟩)]) rfl trivial (enters_of Try.func47 (by kernel_rfl) rfl)
          (all1_mem (fun b => (Bn ≤ b ∧ b < ab) ∨ b = D) (8 - 1) (by omega) Bn A5 c5 es (by omega) W9 (by omega) HC9.out HR9.out (fun b h => by omega)) (fun h k => h.trans k) (hold_putObj (n₀ := W9.heap.size) (fun b h => by omega) (by omega)) (Below.refl _ _) (fun _ => rfl)
          (fun pre U => WoI w W9 bx2 ob q (sumS l + l.length) (fun b => (b = la ∨ b = la + 1 ∨ b = ta ∨ b = lb) ∨ (Bn ≤ b ∧ b < W6.heap.size) ∨ b = ob) (fun b => (Bn ≤ b ∧ b < ab) ∨ b = D) (fun b => b ≠ q ∧ ¬ (b = la ∨ b = la + 1 ∨ b = ta ∨ b = lb) ∧ b < Bn) KA (flatKV (keptE es)) pre.length U)
          (WxI es)
          (woI_own (by omega) (fun b h => by omega) _) (wxI_own es _)
          ⟨⟨HX9.out, HX0.out, HW9.out, Hold.refl _ _⟩, ⟨es, HWK.out, HK9.out.more (by omega)⟩⟩ (fun W => Hold.refl _ W) ?_ ?assign ?body ?done ?stop
        case assign =>
          intro l' x U K hK
          gi_wp2
          exact hK
        case stop =>
          rintro D2 cc pre U _ hsp ⟨_, hx⟩ _
          exact absurd hsp hx
        case done =>
          rintro D2 ys U hD2 hys hI hK2
          rw [all_len hys] at hI
          clear hys
          have hF := hI.f
          obtain ⟨es', _, hko⟩ := hI.tree
          have hB := hko.kv.kp.base
          have hUz := hF.hold.1
          have hKDU := (hF.hold.2 D (.inr rfl) (by omega)).trans HKD.out
          have xl := hF.bxs (lb, 26, .slice KA es.length kc) (by rw [HBX2.out]; simp)
          have xr := hF.bxs (la + 1, 4, .bool false) (by rw [HBX2.out, HBX.out]; simp)
          have hcl := xl.cell
          have hcR := xr.cell
          have hfR := xr.frozen
          have hcO := hF.out.cell
          have hR2 := xr.set (.bool true)
          have k2 := (KeepsOthers.setCell U ⟨la + 1, 0, none⟩ (.bool true)).same D2 _ hK2 rfl
          have kD := (KeepsOthers.setCell U ⟨la + 1, 0, none⟩ (.bool true)).same D _ hKDU rfl
          have hB2 := hB.setCell (p := ⟨la + 1, 0, none⟩) (by show w.heap.size ≤ la + 1; omega) (.bool true)
          have hc2 := hR2.cell
          have hnD : D2 ≠ D := by omega
          have hne2 : D2 ≠ la + 1 := by omega
          have hneD : D ≠ la + 1 := by omega
          have kD2 : ((U.setCell ⟨la + 1, 0, none⟩ (.bool true)).putObj D2 (.deferred none)).heap[D]? = some (.deferred (some [])) := (World.putObj_heap_other (Ne.symm hnD)).trans kD
          have hcf : (((U.setCell ⟨la + 1, 0, none⟩ (.bool true)).putObj D2 (.deferred none)).putObj D (.deferred none)).cell? ⟨la + 1, 0, none⟩ = some (.bool true) := by
            rw [← hc2]
            simp [World.cell?, World.putObj, hne2, hneD]
          have hBF := (hB2.trans (belowK_b (w := w) (Nat.le_refl _) _ D2 _ (.deferred none) (by omega) k2 rfl rfl)).trans (belowK_b (w := w) (Nat.le_refl _) _ D _ (.deferred none) (by omega) kD2 rfl rfl)
          have HEND := Lib.hid (And.intro (And.intro k2 kD2) (And.intro hcf hBF))
          have hee : (((es.length : Nat) : Int) == ((es.length : Nat) : Int)) = true := by simp
          clear hI hF hko hB hKDU xl xr hR2 kD hB2 hc2 kD2 hcf hBF k2 hK2
          gi_wp2
          refine ⟨by simp, .inl ⟨_, _, rfl, run_takeDeferred HEND.out.1.1, ⟨by simp, .inl ⟨_, _, rfl, run_takeDeferred HEND.out.1.2, ?_⟩⟩⟩⟩
          have hcf := HEND.out.2.1
          exact ⟨.bool true, by simp [results, Try.results7, go_sem, hcf], rfl, by first | exact HEND.out.2.2 | (have h := HEND.out.2.2; rw [hap.2.2.2] at h; exact h)⟩
        case body =>
          rintro l' pre ⟨⟨p, v⟩, hx⟩ U ⟨rec0, hrec⟩ hI hlt2
          obtain ⟨y, hy⟩ := some_of_lt (show pre.length < (keptE es).length by rw [keptE_length]; exact hlt2)
          obtain ⟨b, off, rfl, hb, f0, f1⟩ := hI.f.row.row.kv hy
          have hm : ∀ z ∈ bx2, Boxed U z.1 z.2.1 z.2.2 := hI.f.bxs
          have xl := hm (lb, 26, .slice (some ⟨b, off, none⟩) es.length kc) (by rw [HBX2.out]; simp)
          have xr := hm (la + 1, 4, .bool false) (by rw [HBX2.out, HBX.out]; simp)
          have hcl := xl.cell
          have hcR := xr.cell
          have hfR := xr.frozen
          have hcO := hI.f.out.cell
          have hfO := hI.f.out.frozen
          have HM := Lib.hid (fun h : (p, v) ≠ y => walk_mis (x := ⟨(p, v), hx⟩) hy h)
          have hltI : ((pre.length : Nat) : Int) < ((es.length : Nat) : Int) := by omega
          have hkf := (KeepsOthers.setCell U ⟨la + 1, 0, none⟩ (.bool false)).from (ob + 1)
          obtain ⟨yp, yv⟩ := y
          dsimp only at f0 f1
          clear hm xl xr
          by_cases hp : yp = p
          · subst hp
            by_cases hv : yv = v
            · subst hv
              have e1 : (yp.toList != yp.toList) = false := by simp
              have e2 : (yv != yv) = false := by simp
              obtain ⟨es', hwk, hko⟩ := hI.tree
              have hF := hI.f
              have hUz := hF.hold.1
              have hcU := (hF.hold.cell (p := ⟨Bn, 0, none⟩) (.inl ⟨Nat.le_refl _, by show Bn < ab; omega⟩) (by show Bn < W9.heap.size; omega)).trans HC9.out
              have hrU := HR9.out.hold hF.hold
              have hcabU : U.cell? ⟨ab, 0, none⟩ = some (.func (.func 47) #[] #[.pointer (some ⟨Bn, 0, none⟩)]) := (hF.bxs (ab, 53, .func (.func 47) #[] #[.pointer (some ⟨Bn, 0, none⟩)]) (by rw [HBX2.out]; simp)).cell
              have hlU : ab < U.heap.size := by omega
              obtain ⟨U1, hU1⟩ : ∃ U1 : World, U1 = U.alloc (.cells #[.int .i64 0] 3) := ⟨_, rfl⟩
              have bU : Below U.heap.size U U1 := by rw [hU1]; exact (Below.refl _ U).alloc (Nat.le_refl _) _
              have sU : U1.heap.size = U.heap.size + 1 := by rw [hU1]; simp
              have xi : Boxed U1 U.heap.size 3 (.int .i64 0) := by rw [hU1]; exact Boxed.new U _ _
              obtain ⟨ib, hib⟩ : ∃ n, n = U.heap.size := ⟨_, rfl⟩
              have hF1 := hF.below bU
              have hc1 := (bU.cell (p := ⟨Bn, 0, none⟩) (by show Bn < U.heap.size; omega)).trans hcU
              have hr1 := hrU.hold (Hold.of_below bU)
              have hrec1 := (bU.block l' (Array.getElem?_eq_some_iff.1 hrec).1).trans hrec
              have hko1 := hko.away (V' := fun b => ((b = la ∨ b = la + 1 ∨ b = ta ∨ b = lb) ∨ (Bn ≤ b ∧ b < W6.heap.size) ∨ b = ob) ∨ b = ib) bU (fun b hb => by
                rcases hb with hb | hb
                · exact ⟨.inl hb, by have := (hko.off hb).1; omega⟩
                · exact ⟨.inr (by omega), by omega⟩)
              have hkf1 : KeepsFrom W9.heap.size U U1 := keeps_below bU
              have hh1 : Hold (fun b => (Bn ≤ b ∧ b < ab) ∨ b = D) U U1 := Hold.of_below bU
              have hibz : ob < ib ∧ U1.heap.size = ib + 1 := by omega
              rw [← hib] at xi
              have HFU := Lib.hid hU1
              have HF1 := Lib.hid hF1
              have HC1 := Lib.hid hc1
              have HR1 := Lib.hid hr1
              have HK1 := Lib.hid (And.intro hwk hko1)
              have HKF := Lib.hid (And.intro hkf1 hh1)
              have HXI := Lib.hid xi
              have HREC := Lib.hid hrec1
              clear hkf HM hy hI hwk hko hF hUz hcU hrU bU sU xi hF1 hc1 hr1 hrec hrec1 hko1 hkf1 hh1 hU1
              gi_wp2_with fail
              rw [← HFU.out, ← hib]
              clear hib HFU hcabU hlU f0 f1 hcl hcR hfR hcO hfO
              refine wpIn_rangeFunc_recN (l₀ := l') (r₀ := rec0) rfl HREC.out (by omega) (gf := 47) (lb := #[.pointer (some ⟨Bn, 0, none⟩)]) rfl trivial (enters_of Try.func47 (by kernel_rfl) rfl)
                ((all1_mem (fun b => (Bn ≤ b ∧ b < ab) ∨ b = D) (6 - 1) (by omega) Bn A5 c5 es (by omega) U1 (by omega) HC1.out HR1.out (fun b h => by omega)).inRound l') (fun h k => h.trans k) (hold_putObj (n₀ := W9.heap.size) (fun b h => by omega) (by omega)) (Below.refl _ _) (fun _ => rfl)
                (fun pre2 T => WkI ib U1 pre2.length T) (WxI es)
                (wkI_own (Nat.le_refl _) _) (wxI_own es _) ⟨HXI.out, Turn.refl _ _⟩ (fun W => Hold.refl _ W) ?_ ?assign2 ?body2 ?done2 ?stop2
              case assign2 =>
                intro l2 x T K hK
                gi_wp2
                exact hK
              case stop2 =>
                rintro cc pre2 T hsp ⟨_, hx⟩
                exact absurd hsp hx
              case body2 =>
                rintro l2 pre2 ⟨⟨p2, v2⟩, hx2⟩ T ⟨hb2, ht2⟩ hlt3
                obtain ⟨⟨yq, yw⟩, hy2⟩ := some_of_lt (show pre2.length < (keptE es).length by rw [keptE_length]; exact hlt3)
                have hFT := HF1.out.turn ht2 (fun y hy => by
                  rw [HBX2.out, HBX.out] at hy
                  simp only [List.mem_cons, List.not_mem_nil, or_false] at hy
                  rcases hy with rfl | rfl | rfl | rfl | rfl <;> simp only [] <;> omega) (by omega) (fun h => by omega) (fun h => by omega)
                obtain ⟨b', off', e', hb', g0, g1⟩ := hFT.row.row.kv hy2
                cases e'
                dsimp only at g0
                have hcl := (hFT.bxs (lb, 26, .slice (some ⟨b, off, none⟩) es.length kc) (by rw [HBX2.out]; simp)).cell
                have xr := hFT.bxs (la + 1, 4, .bool false) (by rw [HBX2.out, HBX.out]; simp)
                have hcR := xr.cell
                have hfR := xr.frozen
                have hci := hb2.cell
                have hfi := hb2.frozen
                have HM := Lib.hid (fun h : (p2, v2) ≠ (yq, yw) => walk_mis (x := ⟨(p2, v2), hx2⟩) hy2 h)
                have hltI2 : ((pre2.length : Nat) : Int) < ((es.length : Nat) : Int) := by omega
                have hpl2 : pre2.length ≤ 1048576 := by omega
                have HA := Lib.hid (show KeepsFrom U1.heap.size T (T.setCell ⟨la + 1, 0, none⟩ (.bool false)) from (KeepsOthers.setCell T _ _).from _)
                have HB := Lib.hid (show (KeepsFrom U1.heap.size T (T.setCell ⟨ib, 0, none⟩ (.int .i64 ((pre2.length : Nat) + 1))) ∧ Hold (fun b => (Bn ≤ b ∧ b < ab) ∨ b = D) T (T.setCell ⟨ib, 0, none⟩ (.int .i64 ((pre2.length : Nat) + 1)))) ∧ WkI ib U1 (pre2.length + 1) (T.setCell ⟨ib, 0, none⟩ (.int .i64 ((pre2.length : Nat) + 1))) from
                  ⟨⟨(KeepsOthers.setCell T _ _).from _, Hold.of_grown (grownBy_setCell' T ib _) (fun b e k => by cases e; omega)⟩, by have h := hb2.set (.int .i64 ((pre2.length : Nat) + 1)); simpa using h, turn_set ht2⟩)
                clear xr hb2 ht2 hFT g1 hy2
                by_cases hp : yq = p2
                · subst hp
                  have e3 : (yq.toList != yq.toList) = false := by simp
                  clear HM HA
                  gi_wp2
                  refine ⟨by first | exact HB.out.1.1 | (have h := HB.out.1.1; rw [hibz.2] at h; exact h), HB.out.1.2, ?_⟩
                  have h := HB.out.2
                  simpa using h
                · have e0 : (yq.toList == p2.toList) = false := by rw [eq_str, decide_eq_false hp]
                  have e3 : (yq.toList != p2.toList) = true := by rw [bne, e0]; rfl
                  have e4 : ¬ yq.toList = p2.toList := by simpa using e0
                  have HM2 := Lib.hid (HM.out (fun e => hp (Prod.mk.inj e).1.symm))
                  clear HM HB hp
                  gi_wp2
                  exact ⟨by first | exact HA.out | (have h := HA.out; rw [hibz.2] at h; exact h), rfl, HM2.out⟩
              case done2 =>
                rintro ys T hys ⟨hbT, htT⟩
                rw [all_len hys] at hbT
                clear hys
                have hne : ∀ y ∈ bx2, y.1 ≠ ib ∧ y.1 ≠ q ∧ y.1 ≠ ob := fun y hy => by
                  rw [HBX2.out, HBX.out] at hy
                  simp only [List.mem_cons, List.not_mem_nil, or_false] at hy
                  rcases hy with rfl | rfl | rfl | rfl | rfl <;> simp only [] <;> omega
                have hFT := HF1.out.turn htT (fun y hy => (hne y hy).1) (by omega) (fun h => by omega) (fun h => by omega)
                have hkT := HK1.out.2.turn (.inr rfl) htT (by omega)
                have hwk := HK1.out.1
                have hpl : pre.length ≤ 1048576 := by omega
                have HRM := Lib.hid (RemoveO _ w T q es' (sumS l + l.length + 1025) yp hkT (by omega))
                have hct := (hFT.bxs (ta, 23, .pointer (some ⟨q, 0, none⟩)) (by rw [HBX2.out, HBX.out]; simp)).cell
                have hkfT := HKF.out.1.trans (keeps_turn htT ⟨_, HXI.out, rfl⟩ : KeepsFrom W9.heap.size U1 T)
                have hhT := HKF.out.2.trans (htT.hold (S := fun b => (Bn ≤ b ∧ b < ab) ∨ b = D) (fun h => by omega))
                have HT := Lib.hid (And.intro (And.intro hFT hwk) (And.intro hkfT hhT))
                have HBT := Lib.hid hbT
                have HNE := Lib.hid hne
                clear hFT hwk hkfT hhT hkT hbT htT hne HF1 HC1 HR1 HK1 HKF HXI HREC
                gi_wp2_with fail
                refine ⟨trivial, (CallsIn.inRound l' (callsIn_wide.2 HRM.out)).mono ?_⟩
                rintro e T1 ⟨r, es1, rfl, hto, hK1, ht1⟩
                have hF1 := HT.out.1.1.turn ht1 (fun y hy => (HNE.out y hy).2.1) (by omega) (fun h => h.1 rfl) (fun h => by omega)
                have hwk1 := HT.out.1.2.rem hto
                have hkf1 := HT.out.2.1.trans (keeps_low ht1 (by omega) : KeepsFrom W9.heap.size T T1)
                have hh1 := HT.out.2.2.trans (ht1.hold (S := fun b => (Bn ≤ b ∧ b < ab) ∨ b = D) (fun h => by omega))
                have hb1 : Boxed T1 ib 3 (.int .i64 (es.length : Nat)) := (ht1.block ib HBT.out.lt (by omega)).trans HBT.out
                have hct1 := (hF1.bxs (ta, 23, .pointer (some ⟨q, 0, none⟩)) (by rw [HBX2.out, HBX.out]; simp)).cell
                have hco1 := hF1.out.cell
                have htl := (hF1.bxs (ta, 23, .pointer (some ⟨q, 0, none⟩)) (by rw [HBX2.out, HBX.out]; simp)).lt
                have hol := hF1.out.lt
                have hdz := itoa_size (k := pre.length) (by omega)
                have hd47 := itoa_bl pre.length
                have HD := Lib.hid (fun W => rDigits_any ((pre.length : Nat) : Int) W (by omega) (by omega))
                generalize itoaT ((pre.length : Nat) : Int) = dg at *
                have hnz := newT_size dg
                have HI := Lib.hid (fun W (h : Below T1.heap.size T1 W) => (show Calls Try.prog 12 #[.pointer (some ⟨q, 0, none⟩), .string ((⟨#[47, 110, 101, 119, 47, 58, 120]⟩ : ByteArray) ++ dg ++ (⟨#[47, 121]⟩ : ByteArray)), .int .i64 9] W (GivesInsO _ w W q es1 (sumS l + l.length + 1025) (newT dg) 9) from InsertO _ w W q es1 (sumS l + l.length + 1025) (newT dg) 9 (hK1.below h) (by omega)))
                have HT1 := Lib.hid (And.intro (And.intro hF1 hwk1) (And.intro (And.intro hkf1 hh1) hb1))
                have HD47 := Lib.hid hd47
                have hno1 : ¬ 9223372036854775807 < 7 + dg.size := by omega
                have hno2 : ¬ 9223372036854775807 < 7 + dg.size + 2 := by omega
                clear hto hK1 ht1 hF1 hwk1 hkf1 hh1 hb1 HT HRM HBT hct hd47 hnz
                gi_wp2_with fail
                refine wpIn_mono (Q := NoPanic _) ?_ NoPanic.imp
                gi_region_with_o (first | (refine ⟨trivial, ?_⟩; gi_at_call 18; refine (CallsIn.inRound l' (callsIn_wide.2 (HD.out _))).mono ?_; rintro e T2 ⟨rfl, bd⟩; have hct2 := (bd.cell (p := ⟨ta, 0, none⟩) (by simpa using htl)).trans hct1; replace bd := below_undrew bd) | (refine ⟨trivial, ?_⟩; gi_at_call 12; refine (CallsIn.inRound l' (callsIn_wide.2 (HI.out _ bd))).mono ?_; rintro e T3 ⟨code, es2, rfl, hto2, hK3, ht3⟩))
                all_goals
                  have hwk2 := HT1.out.1.2.ins HD47.out hto2
                  have hK4 := hK3.tight hwk2.sum
                  have hF3 := (HT1.out.1.1.below bd).turn ht3 (fun y hy => (HNE.out y hy).2.1) (by omega) (fun h => h.1 rfl) (fun h => by omega)
                  have hb2 := HT1.out.2.2.kept (below_grown bd) (fun e => by cases e)
                  have hb3 : Boxed _ ib 3 (.int .i64 (es.length : Nat)) := (ht3.block ib hb2.lt (by omega)).trans hb2
                  have hkf3 := HT1.out.2.1.1.trans ((keeps_below bd).trans (keeps_low ht3 (by omega) : KeepsFrom W9.heap.size _ _))
                  have hh3 := (HT1.out.2.1.2.trans (Hold.of_below bd)).trans (ht3.hold (S := fun b => (Bn ≤ b ∧ b < ab) ∨ b = D) (fun h => by omega))
                  have hF4 := hF3.next (fun y hy => (HNE.out y hy).2.2) (fun h => by omega) (fun h => by omega)
                  have hK5 := (hK4.sub (V' := fun b => (b = la ∨ b = la + 1 ∨ b = ta ∨ b = lb) ∨ (Bn ≤ b ∧ b < W6.heap.size) ∨ b = ob) (fun b h => .inl h)).set (X := ob) (.inr (.inr rfl)) (by omega) (.int .i64 ((pre.length : Nat) + 1))
                  have hci := hb3.cell
                  have hcl := (hF3.bxs (lb, 26, .slice (some ⟨b, off, none⟩) es.length kc) (by rw [HBX2.out]; simp)).cell
                  have hco := hF3.out.cell
                  have hfo := hF3.out.frozen
                  have hkf4 := hkf3.trans ((KeepsOthers.setCell _ ⟨ob, 0, none⟩ (.int .i64 ((pre.length : Nat) + 1))).from W9.heap.size)
                  have hh4 := hh3.trans (Hold.of_grown (S := fun b => (Bn ≤ b ∧ b < ab) ∨ b = D) (grownBy_setCell' _ ob (.int .i64 ((pre.length : Nat) + 1))) (fun b e k => by cases e; omega))
                  have hnn : (((es.length : Nat) : Int) != ((es.length : Nat) : Int)) = false := by simp
                  have HEND := Lib.hid (And.intro (And.intro hkf4 hh4) (show WoI w W9 bx2 ob q (sumS l + l.length) _ _ _ _ _ (pre.length + 1) _ from ⟨hF4, ⟨_, hwk2, hK5⟩⟩))
                  clear hwk2 hK4 hF3 hb2 hb3 hkf3 hh3 hF4 hK5 hkf4 hh4 hto2 hK3 ht3 bd HT1 HI HD hct1 hco1
                  refine NoPanic.normal ?_
                  gi_wp2
                  refine ⟨by first | exact HEND.out.1.1 | (have h := HEND.out.1.1; rw [hz9.1.2] at h; exact h), HEND.out.1.2, ?_⟩
                  have h := HEND.out.2
                  simpa [hz.2.2] using h
            · have e1 : (yp.toList != yp.toList) = false := by simp
              have e2 : (yv != v) = true := by simpa using hv
              have HM2 := Lib.hid (HM.out (fun e => hv (Prod.mk.inj e).2.symm))
              have HKF := Lib.hid hkf
              clear HM hy hv hkf hI
              gi_wp2
              exact ⟨by first | exact HKF.out | (rw [hz9.1.2]; exact HKF.out), rfl, HM2.out⟩
          · have e1 : (yp.toList != p.toList) = true := by rw [bne, eq_str, decide_eq_false hp]; rfl
            have e0 : (yp.toList == p.toList) = false := by rw [eq_str, decide_eq_false hp]
            have e3 : ¬ yp.toList = p.toList := by simpa using e0
            have HM2 := Lib.hid (HM.out (fun e => hp (Prod.mk.inj e).1.symm))
            have HKF := Lib.hid hkf
            clear HM hy hp hkf hI
            gi_wp2
            exact ⟨by first | exact HKF.out | (rw [hz9.1.2]; exact HKF.out), rfl, HM2.out⟩
end Go.Proofs.Ytkhgnfofinpofaa
