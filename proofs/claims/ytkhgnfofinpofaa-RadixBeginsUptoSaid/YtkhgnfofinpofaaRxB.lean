/-
  Where a tree lies in memory; the walk of build.
-/
import Derived.Test.YtkhgnfofinpofaaRxU
import Derived.Test.YtkhgnfofinpofaaRxH
namespace Go.Proofs.Ytkhgnfofinpofaa
open Go.RowKit Go.Shelf Go.Lib Go.Maps Go.WideMaps

/-- What lay in some blocks lies there still. -/
def Hold (S : Nat → Prop) (w w' : World) : Prop := w.heap.size ≤ w'.heap.size ∧ ∀ b, S b → b < w.heap.size → w'.heap[b]? = w.heap[b]?
theorem Hold.of_below {S : Nat → Prop} {w w' : World} (h : Below w.heap.size w w') : Hold S w w' := ⟨h.size, fun b _ hb => h.block b hb⟩
theorem Hold.of_grown {S : Nat → Prop} {w w' : World} {row : Option Nat} (h : w.grownBy w' row) (hr : ∀ b, row = some b → ¬ S b) : Hold S w w' :=
  ⟨h.size, fun b hlo hb => h.block b hb (fun e => hr b e.symm hlo)⟩
theorem Hold.cell {S : Nat → Prop} {w w' : World} (h : Hold S w w') (p : Addr) (h1 : S p.block) (h2 : p.block < w.heap.size) : w'.cell? p = w.cell? p := World.cell?_of_block (h.2 p.block h1 h2)
/-- A row in one of some blocks. -/
def RowF (S : Nat → Prop) (w : World) (A : Option Addr) (xs : List Value) : Prop := 0 < xs.length → ∃ b off, A = some ⟨b, off, none⟩ ∧ S b ∧ b < w.heap.size ∧ ∀ j v, xs[j]? = some v → w.cell? ⟨b, off + j, none⟩ = some v
theorem RowF.row {S : Nat → Prop} {w : World} {A : Option Addr} {xs : List Value} (h : RowF S w A xs) : Row w A xs := fun hl => by
  obtain ⟨b, off, e, _, h2, h3⟩ := h hl
  exact ⟨b, off, e, h2, h3⟩
theorem RowF.hold {S : Nat → Prop} {w w' : World} {A : Option Addr} {xs : List Value} (h : RowF S w A xs) (hh : Hold S w w') : RowF S w' A xs := fun hl => by
  obtain ⟨b, off, e, h1, h2, h3⟩ := h hl
  exact ⟨b, off, e, h1, Nat.lt_of_lt_of_le h2 hh.1, fun j v hv => (hh.cell ⟨b, off + j, none⟩ h1 h2).trans (h3 j v hv)⟩
theorem RowF.mono {S S' : Nat → Prop} {w : World} {A : Option Addr} {xs : List Value} (h : RowF S w A xs) (hl : ∀ b, S b → b < w.heap.size → S' b) : RowF S' w A xs := fun h0 => by
  obtain ⟨b, off, e, h1, h2, h3⟩ := h h0
  exact ⟨b, off, e, hl b h1 h2, h2, h3⟩
theorem RowF.own {S : Nat → Prop} {base sz n c : Nat} {w : World} {E : TypeId} {A : Option Addr} {xs : List Value} (h : w.ownsRow base E sz (.slice A n c) n xs) (hl : ∀ b, (Value.slice A n c).ownBlock = some b → S b) : RowF S w A xs := fun h0 => by
  obtain ⟨b, off, e, h1, h2⟩ := own_row h h0
  have hb : (Value.slice A n c).ownBlock = some b := by rw [e]; rfl
  exact ⟨b, off, e, hl b hb, h1, h2⟩
/-- Where a node lies, and where a chain of edges lies. -/
def At (S : Nat → Prop) : Tr → (World → Value → Prop) × (World → List Value → List Value → Prop)
  | .none => (fun _ v => v = .pointer none, fun _ ts ps => ts = [] ∧ ps = [])
  | .node ends kids param rest => (fun w v => ∃ b TA tc KA kc ts ps pv rv, v = .pointer (some ⟨b, 0, none⟩) ∧ S b ∧ b < w.heap.size ∧
      w.cell? ⟨b, 0, none⟩ = some (.slice TA ts.length tc) ∧ w.cell? ⟨b, 1, none⟩ = some (.slice KA ps.length kc) ∧ w.cell? ⟨b, 2, none⟩ = some pv ∧ w.cell? ⟨b, 3, none⟩ = some rv ∧ w.cell? ⟨b, 4, none⟩ = some (.int .i64 (ends : Int)) ∧
      RowF S w TA ts ∧ RowF S w KA ps ∧ (At S kids).2 w ts ps ∧ (At S param).1 w pv ∧ (At S rest).1 w rv, fun _ _ _ => False)
  | .kid text t more => (fun _ _ => False, fun w ts ps => ∃ p ts' ps', ts = .string text :: ts' ∧ ps = p :: ps' ∧ (At S t).1 w p ∧ (At S more).2 w ts' ps')
theorem At.hold {S : Nat → Prop} {w w' : World} (hh : Hold S w w') : ∀ T : Tr, (∀ v, (At S T).1 w v → (At S T).1 w' v) ∧ (∀ ts ps, (At S T).2 w ts ps → (At S T).2 w' ts ps)
  | .none => ⟨fun _ h => h, fun _ _ h => h⟩
  | .node ends kids param rest => ⟨fun v h => by
      obtain ⟨b, TA, tc, KA, kc, ts, ps, pv, rv, h1, h2, h3, c0, c1, c2, c3, c4, r1, r2, k1, k2, k3⟩ := h
      have hc : ∀ i, w'.cell? ⟨b, i, none⟩ = w.cell? ⟨b, i, none⟩ := fun i => hh.cell ⟨b, i, none⟩ h2 h3
      exact ⟨b, TA, tc, KA, kc, ts, ps, pv, rv, h1, h2, Nat.lt_of_lt_of_le h3 hh.1, (hc 0).trans c0, (hc 1).trans c1, (hc 2).trans c2, (hc 3).trans c3, (hc 4).trans c4, r1.hold hh, r2.hold hh, (At.hold hh kids).2 _ _ k1, (At.hold hh param).1 _ k2, (At.hold hh rest).1 _ k3⟩,
    fun _ _ h => h.elim⟩
  | .kid text t more => ⟨fun _ h => h.elim, fun ts ps h => by
      obtain ⟨p, ts', ps', e1, e2, h1, h2⟩ := h
      exact ⟨p, ts', ps', e1, e2, (At.hold hh t).1 _ h1, (At.hold hh more).2 _ _ h2⟩⟩
theorem At.mono {S S' : Nat → Prop} {w : World} (hl : ∀ b, S b → b < w.heap.size → S' b) : ∀ T : Tr, (∀ v, (At S T).1 w v → (At S' T).1 w v) ∧ (∀ ts ps, (At S T).2 w ts ps → (At S' T).2 w ts ps)
  | .none => ⟨fun _ h => h, fun _ _ h => h⟩
  | .node ends kids param rest => ⟨fun v h => by
      obtain ⟨b, TA, tc, KA, kc, ts, ps, pv, rv, h1, h2, h3, c0, c1, c2, c3, c4, r1, r2, k1, k2, k3⟩ := h
      exact ⟨b, TA, tc, KA, kc, ts, ps, pv, rv, h1, hl b h2 h3, h3, c0, c1, c2, c3, c4, r1.mono hl, r2.mono hl, (At.mono hl kids).2 _ _ k1, (At.mono hl param).1 _ k2, (At.mono hl rest).1 _ k3⟩,
    fun _ _ h => h.elim⟩
  | .kid text t more => ⟨fun _ h => h.elim, fun ts ps h => by
      obtain ⟨p, ts', ps', e1, e2, h1, h2⟩ := h
      exact ⟨p, ts', ps', e1, e2, (At.mono hl t).1 _ h1, (At.mono hl more).2 _ _ h2⟩⟩
/-- The edges that are gathered so far. -/
def KL (S : Nat → Prop) (w : World) : List (ByteArray × Tr) → List Value → Prop
  | [], [] => True
  | x :: l, p :: ps => (At S x.2).1 w p ∧ KL S w l ps
  | _, _ => False
theorem KL.length {S : Nat → Prop} {w : World} : ∀ (l : List (ByteArray × Tr)) (ps : List Value), KL S w l ps → ps.length = l.length
  | [], [], _ => rfl
  | _ :: l, _ :: ps, h => by rw [List.length_cons, List.length_cons, KL.length l ps h.2]
  | [], _ :: _, h => h.elim
  | _ :: _, [], h => h.elim
theorem KL.snoc {S : Nat → Prop} {w : World} {x : ByteArray × Tr} {p : Value} : ∀ (l : List (ByteArray × Tr)) (ps : List Value), KL S w l ps → (At S x.2).1 w p → KL S w (l ++ [x]) (ps ++ [p])
  | [], [], _, h => ⟨h, trivial⟩
  | _ :: l, _ :: ps, hk, h => ⟨hk.1, KL.snoc l ps hk.2 h⟩
  | [], _ :: _, hk, _ => hk.elim
  | _ :: _, [], hk, _ => hk.elim
theorem KL.hold {S : Nat → Prop} {w w' : World} (hh : Hold S w w') : ∀ (l : List (ByteArray × Tr)) (ps : List Value), KL S w l ps → KL S w' l ps
  | [], [], h => h
  | x :: l, _ :: ps, h => ⟨(At.hold hh x.2).1 _ h.1, KL.hold hh l ps h.2⟩
  | [], _ :: _, h => h.elim
  | _ :: _, [], h => h.elim
theorem KL.mono {S S' : Nat → Prop} {w : World} (hl : ∀ b, S b → b < w.heap.size → S' b) : ∀ (l : List (ByteArray × Tr)) (ps : List Value), KL S w l ps → KL S' w l ps
  | [], [], h => h
  | x :: l, _ :: ps, h => ⟨(At.mono hl x.2).1 _ h.1, KL.mono hl l ps h.2⟩
  | [], _ :: _, h => h.elim
  | _ :: _, [], h => h.elim
theorem KL.chain {S : Nat → Prop} {w : World} : ∀ (l : List (ByteArray × Tr)) (ps : List Value), KL S w l ps → (At S (chain l)).2 w (l.map fun x => .string x.1) ps
  | [], [], _ => ⟨rfl, rfl⟩
  | _ :: l, p :: ps, h => ⟨p, _, _, rfl, rfl, h.1, KL.chain l ps h.2⟩
  | [], _ :: _, h => h.elim
  | _ :: _, [], h => h.elim
theorem info_node : (Try.prog.info? 76).map (fun i => (i.zero, i.size, i.bytes)) = some (some (.agg #[.slice none 0 0, .slice none 0 0, .pointer none, .pointer none, .int .i64 0]), 5, 72) := by kernel_rfl
/-- What build hands back. -/
def GivesNode (w : World) (T : Tr) (e : Ending) (w' : World) : Prop := ∃ q : Option Addr, e = .returned (.pointer q) ∧ (At (fun b => w.heap.size ≤ b) T).1 w' (.pointer q) ∧ Below w.heap.size w w'
/-- The family's rows are what the plain words say of the ways that were gone through. -/
structure Gth (ws : List Pw) (G : Nat → List Wy) : Prop where
  group : ∀ c, c < 256 → (G c).map plW = groupP c ws
  param : (G 256).map plW = edgeP 1 ws
  rest : (G 257).map plW = edgeP 2 ws
theorem Gth.start : Gth [] (fun _ => []) := ⟨fun _ _ => rfl, rfl, rfl⟩
section
variable {ws : List Pw} {G : Nat → List Wy} {x : Wy}
theorem Gth.ends (h : Gth ws G) (hx : x.2.2 = []) : Gth (ws ++ [plW x]) G := by
  have hp : (plW x).2 = [] := hx
  refine ⟨fun c hc => ?_, ?_, ?_⟩
  · rw [groupP_snoc, h.group c hc]; unfold groupOne; rw [hp]; simp
  · rw [edgeP_snoc, h.param]; unfold edgeOne; rw [hp]; simp
  · rw [edgeP_snoc, h.rest]; unfold edgeOne; rw [hp]; simp
theorem Gth.edge (h : Gth ws G) {p : Pc} {r : List Pc} (hx : x.2.2 = p :: r) {y : Wy} (hy : plW y = (x.1, r)) (k : Nat) (hk : (k = 256 ∧ p.1 = 1) ∨ (k = 257 ∧ p.1 = 2)) : Gth (ws ++ [plW x]) (upd G k (G k ++ [y])) := by
  have hp : (plW x).2 = p :: r := hx
  have hx1 : (plW x).1 = x.1 := rfl
  refine ⟨fun c hc => ?_, ?_, ?_⟩
  · rw [upd_other (by omega), groupP_snoc, h.group c hc]
    unfold groupOne
    rw [hp]
    dsimp only
    rw [if_pos (by omega)]
    simp
  · rw [edgeP_snoc]
    unfold edgeOne
    rw [hp]
    dsimp only
    rcases hk with ⟨rfl, e⟩ | ⟨rfl, e⟩
    · rw [upd_same, if_pos e, List.map_append, h.param, hx1]
      simp [hy]
    · rw [upd_other (by decide), if_neg (by omega), h.param]
      simp
  · rw [edgeP_snoc]
    unfold edgeOne
    rw [hp]
    dsimp only
    rcases hk with ⟨rfl, e⟩ | ⟨rfl, e⟩
    · rw [upd_other (by decide), if_neg (by omega), h.rest]
      simp
    · rw [upd_same, if_pos e, List.map_append, h.rest, hx1]
      simp [hy]
theorem Gth.text (h : Gth ws G) {p : Pc} {r : List Pc} (hx : x.2.2 = p :: r) (h1 : ¬ p.1 = 1) (h2 : ¬ p.1 = 2) {c : Nat} (hc : c < 256) (hb : bt p.2 0 = c) : Gth (ws ++ [plW x]) (upd G c (G c ++ [x])) := by
  have hp : (plW x).2 = p :: r := hx
  refine ⟨fun d hd => ?_, ?_, ?_⟩
  · rw [groupP_snoc]
    unfold groupOne
    rw [hp]
    dsimp only
    rw [if_neg (by omega)]
    by_cases e : d = c
    · subst e
      rw [upd_same, if_pos hb, List.map_append, h.group d hd]
      simp
    · rw [upd_other e, if_neg (by omega), h.group d hd]
      simp
  · rw [upd_other (by omega), edgeP_snoc, h.param]
    unfold edgeOne
    rw [hp]
    dsimp only
    rw [if_neg h1]
    simp
  · rw [upd_other (by omega), edgeP_snoc, h.rest]
    unfold edgeOne
    rw [hp]
    dsimp only
    rw [if_neg h2]
    simp
end
end Go.Proofs.Ytkhgnfofinpofaa
