/-
  A tree beside others: what it keeps away from.
-/
import Derived.Test.YtkhgnfofinpofaaGreatRxKs
import Derived.Test.YtkhgnfofinpofaaGreatRxKf
namespace Go.Proofs.YtkhgnfofinpofaaGreat
open Go.RowKit Go.Shelf Go.Lib
attribute [local go_sem] Oper.semAt_some

/-- A tree that keeps away from some blocks. -/
def Kv (V : Nat → Prop) (w0 w : World) (q : Nat) (es : List En) (B : Nat) : Prop := ∃ S, TreeAt S w q es ∧ GoodE es ∧ sumE es ≤ B ∧ w0.heap.size ≤ q ∧ Below w0.heap.size w0 w ∧ ∀ b, V b → ¬ S b ∧ b ≠ q ∧ b < w.heap.size
section
variable {V : Nat → Prop} {w0 w w' : World} {q B : Nat} {es : List En}
theorem Kv.kp (h : Kv V w0 w q es B) : Kp w0 w q es B := by
  obtain ⟨S, h1, h2, h3, h4, h5, _⟩ := h
  exact ⟨S, h1, h2, h3, h4, h5⟩
theorem Kv.below (h : Kv V w0 w q es B) (hb : Below w.heap.size w w') : Kv V w0 w' q es B := by
  obtain ⟨S, h1, h2, h3, h4, h5, h6⟩ := h
  exact ⟨S, h1.below hb, h2, h3, h4, h5.trans (hb.mono h5.size), fun b hb2 => ⟨(h6 b hb2).1, (h6 b hb2).2.1, Nat.lt_of_lt_of_le (h6 b hb2).2.2 hb.size⟩⟩
theorem Kv.more {B' : Nat} (h : Kv V w0 w q es B) (hB : B ≤ B') : Kv V w0 w q es B' := by
  obtain ⟨S, h1, h2, h3, h4, h5, h6⟩ := h
  exact ⟨S, h1, h2, Nat.le_trans h3 hB, h4, h5, h6⟩
theorem Kv.off (h : Kv V w0 w q es B) {b : Nat} (hb : V b) : b < w.heap.size ∧ b ≠ q := by
  obtain ⟨S, h1, h2, h3, h4, h5, h6⟩ := h
  exact ⟨(h6 b hb).2.2, (h6 b hb).2.1⟩
/-- Another tree has turned. -/
theorem Kv.turn {q' : Nat} (h : Kv V w0 w q es B) (hq : V q') (ht : Turn q' w w') (hq0 : w0.heap.size ≤ q') : Kv V w0 w' q es B := by
  obtain ⟨S, h1, h2, h3, h4, h5, h6⟩ := h
  exact ⟨S, h1.hold (ht.hold (h6 q' hq).1) (ht.block q h1.lt (fun e => (h6 q' hq).2.1 e.symm)), h2, h3, h4, h5.trans (ht.below hq0 h5.size), fun b hb2 => ⟨(h6 b hb2).1, (h6 b hb2).2.1, Nat.lt_of_lt_of_le (h6 b hb2).2.2 ht.size⟩⟩
end
def GivesInsV (V : Nat → Prop) (w0 w : World) (q : Nat) (es : List En) (B : Nat) (s : ByteArray) (v : Int) (e : Ending) (w' : World) : Prop :=
  ∃ code es', e = .returned (.int .i64 code) ∧ InsTo es s v code es' ∧ Kv V w0 w' q es' (B + (s.size + 1)) ∧ Turn q w w'
theorem InsertV (V : Nat → Prop) (w0 w : World) (q : Nat) (es : List En) (B : Nat) (s : ByteArray) (v : Int) (h : Kv V w0 w q es B) (hB : 3 * (B + (s.size + 1)) ≤ 4194304) :
    Calls Tryz.prog 12 #[.pointer (some ⟨q, 0, none⟩), .string s, .int .i64 v] w (GivesInsV V w0 w q es B s v) := by
  obtain ⟨S, h1, h2, h3, h4, h5, h6⟩ := h
  have hl := h2.load
  refine (Insert_any S w q es s v h1 h2 (by omega) (by omega)).mono fun e w' hg => ?_
  unfold GivesInsert GivesInsertR at hg
  rcases hg with ⟨g1, g2, g3⟩ | ⟨g1, g2, g3, g4⟩ | ⟨g1, g2, g3, ⟨loc, g4⟩, g5⟩
  · exact ⟨130, es, g2, .inl ⟨g1, rfl, rfl⟩, (Kv.below ⟨S, h1, h2, h3, h4, h5, h6⟩ g3).more (Nat.le_add_right _ _), Turn.of_below g3⟩
  · exact ⟨131, es, g3, .inr (.inl ⟨g1, g2, rfl, rfl⟩), (Kv.below ⟨S, h1, h2, h3, h4, h5, h6⟩ g4).more (Nat.le_add_right _ _), Turn.of_below g4⟩
  · exact ⟨0, _, g3, .inr (.inr ⟨g1, g2, rfl, loc, rfl⟩), ⟨_, g4, h2.ins g1 g2, by rw [sumE_ins]; show sumE es + (s.size + 1) ≤ B + (s.size + 1); omega, h4, h5.trans (g5.below h4 h5.size), fun b hb => ⟨by rintro (k | ⟨k, _⟩); exact (h6 b hb).1 k; have := (h6 b hb).2.2; omega, (h6 b hb).2.1, Nat.lt_of_lt_of_le (h6 b hb).2.2 g5.size⟩⟩, g5⟩
def GivesRemV (V : Nat → Prop) (w0 w : World) (q : Nat) (es : List En) (B : Nat) (s : ByteArray) (e : Ending) (w' : World) : Prop :=
  ∃ r es', e = .returned (.tuple #[.int .i64 r.1, .bool r.2]) ∧ RemTo es s r es' ∧ Kv V w0 w' q es' B ∧ Turn q w w'
theorem RemoveV (V : Nat → Prop) (w0 w : World) (q : Nat) (es : List En) (B : Nat) (s : ByteArray) (h : Kv V w0 w q es B) (hB : 3 * B ≤ 4194304) :
    Calls Tryz.prog 15 #[.pointer (some ⟨q, 0, none⟩), .string s] w (GivesRemV V w0 w q es B s) := by
  obtain ⟨S, h1, h2, h3, h4, h5, h6⟩ := h
  have hl := h2.load
  refine (Remove_any S w q es s h1 h2 (by omega)).mono fun e w' hg => ?_
  rcases hg with ⟨g1, g2, g3⟩ | ⟨i, x, g1, g2, g3, g4, g5⟩
  · exact ⟨(0, false), es, g2, .inl ⟨g1, rfl, rfl⟩, Kv.below ⟨S, h1, h2, h3, h4, h5, h6⟩ g3, Turn.of_below g3⟩
  · exact ⟨(x.2.2.2, true), _, g3, .inr ⟨i, x, g1, g2, rfl, rfl⟩, ⟨_, g4, remE_sort h2 i, Nat.le_trans (sumE_sub (List.eraseIdx_sublist _ _)) h3, h4, h5.trans (g5.below h4 h5.size), fun b hb => ⟨by rintro (k | ⟨k, _⟩); exact (h6 b hb).1 k; have := (h6 b hb).2.2; omega, (h6 b hb).2.1, Nat.lt_of_lt_of_le (h6 b hb).2.2 g5.size⟩⟩, g5⟩
end Go.Proofs.YtkhgnfofinpofaaGreat

/-
  The iterator of All, whose elements are known to be kept.
-/
namespace Go.Proofs.YtkhgnfofinpofaaGreat
open Go.RowKit Go.Shelf Go.Lib
attribute [local go_sem] Oper.semAt_some

abbrev KM (es : List En) := { x : KV // x ∈ keptE es }
def attE (es : List En) : List (KM es) := (keptE es).attach
theorem attE_map (es : List En) : (attE es).map (·.1) = keptE es := List.attach_map_subtype_val _
theorem attE_length (es : List En) : (attE es).length = es.length := by unfold attE; rw [List.length_attach, keptE_length]
theorem attE_get {es : List En} {k : Nat} {x : En} (h : es[k]? = some x) : ∃ y : KM es, (attE es)[k]? = some y ∧ y.1 = (x.1, x.2.2.2) := by
  have hk := (List.getElem?_eq_some_iff.1 h).1
  have hl := attE_length es
  have hg : (attE es)[k]? = some (attE es)[k] := List.getElem?_eq_getElem (by omega)
  refine ⟨_, hg, ?_⟩
  have h1 : ((attE es).map (·.1))[k]? = some (attE es)[k].1 := by rw [List.getElem?_map, hg]; rfl
  rw [attE_map, keptE_get h] at h1
  exact (Option.some.inj h1).symm
set_option maxRecDepth 20000 in
set_option maxHeartbeats 4000000 in
/-- THE ITERATOR GOES OVER ALL ENTRIES; what it needs is its own cell and its own row. -/
theorem all1_mem (S : Nat → Prop) (n : Nat) (_hn : 1 ≤ n) (Bn : Nat) (A : Option Addr) (c : Nat) (es : List En) (hel : es.length ≤ 4194304) (w : World) (hB : Bn < w.heap.size) (hc : w.cell? ⟨Bn, 0, none⟩ = some (.slice A es.length c)) (hr : RowF S w A (flatE es)) (hS : ∀ b, S b → b < w.heap.size) :
    SeqStopsK Fence.wide n Tryz.prog 42 #[.pointer (some ⟨Bn, 0, none⟩)] (fun x : KM es => #[Value.string x.1.1, .int .i64 x.1.2]) (Hold S) (fun ys => ys.map (·.1) = keptE es) (fun ys => ys.map (·.1) <+: keptE es) es.length w := fun l J Jx W hW hJ _ hY h0 => by
  have hcW := (hW.cell (p := ⟨Bn, 0, none⟩) hB).trans hc
  have hrW := hr.hold (Hold.of_below hW)
  have hSW : ∀ b, S b → b < W.heap.size := fun b h => Nat.lt_of_lt_of_le (hS b h) hW.size
  clear hc hW hB hr hS
  have HY := Lib.hid hY
  have HJ := Lib.hid hJ
  have HR := Lib.hid hrW
  have HS := Lib.hid hSW
  clear hY hJ hrW hSW
  refine callsIn_of_wp Tryz.func42 rfl trivial ?_ rfl
  simp only [Tryz.ntmps42, List.size_toArray, List.length_cons, List.length_nil, Nat.reduceAdd, Nat.reduceSub, Array.replicate_succ, Array.replicate_zero, List.push_toArray, List.append_toArray, List.nil_append, List.cons_append]
  gi_wp2
  gi_loopw [7] (fun i wr => ∃ k : Nat, k ≤ es.length ∧ i = .int .i64 k ∧ Hid (J ((attE es).take k) wr) ∧ Hid (Hold S W wr)) (fun i _ => es.length - (RowKit.intOf i).toNat)
  case atStart => exact ⟨0, by omega, rfl, Lib.hid h0, Lib.hid (Hold.refl _ _)⟩
  case round =>
    obtain ⟨k, hk, rfl, HJk, HH⟩ := hrel
    by_cases hlt : k < es.length
    · obtain ⟨x, hx⟩ := some_of_lt hlt
      obtain ⟨b, off, rfl, hb, f0, f1, f2⟩ := (HR.out.hold HH.out).row.en hx
      obtain ⟨y, hy, hy1⟩ := attE_get hx
      have HT := Lib.hid (take_snoc hy)
      obtain ⟨p, ⟨XA, xc⟩, xl, xv⟩ := x
      dsimp only at f0 f1 f2 hy1
      have hJ1 : J ((attE es).take k) (wr.alloc (.cells #[.string p, .slice XA xl.length xc, .int .i64 xv] 78)) := HJ.out _ _ _ none HJk.out (World.grownBy_alloc _ _ none) (fun r e => by cases e)
      obtain ⟨fn, tmps, assign, body, hyy, hR⟩ := HY.out ((attE es).take k) y _ hJ1 (by rw [List.length_take, attE_length]; omega)
      have HHa : Hid (Hold S W (wr.alloc (.cells #[.string p, .slice XA xl.length xc, .int .i64 xv] 78))) := Lib.hid ⟨by have := HH.out.1; simp; omega, fun b hb hl => (Below.heap_alloc wr _ b (Nat.lt_of_lt_of_le hl HH.out.1)).trans (HH.out.2 b hb hl)⟩
      rw [hy1] at hyy
      dsimp only at hyy
      have HPR := Lib.hid (show ((attE es).take k ++ [y]).map (·.1) <+: keptE es by rw [← HT.out, List.map_take, attE_map]; exact List.take_prefix _ _)
      clear hJ1 hx
      gi_wp2
      refine hR.mono ?_
      rintro e W3 (⟨rfl, hJ3, hk3⟩ | ⟨rfl, hJx3⟩)
      · have HJ3 : Hid (J ((attE es).take (k + 1)) W3) := Lib.hid (by rw [HT.out]; exact hJ3)
        have HH3 : Hid (Hold S W W3) := Lib.hid (HHa.out.trans hk3)
        clear hJ3 hk3
        gi_wp2
        go_roundw
        case rel => exact ⟨k + 1, by omega, by go_num, HJ3, HH3⟩
        case measure => simp [RowKit.intOf]; omega
      · gi_wp2
        refine bodyPost_ret (results_none rfl _ _ _) rfl ?_
        exact ⟨⟨_, rfl⟩, .inr ⟨_, HPR.out, hJx3⟩⟩
    · obtain rfl : k = es.length := by omega
      have HJ4 : Hid (J (attE es) wr) := Lib.hid (by have := HJk.out; rwa [List.take_of_length_le (by rw [attE_length]; exact Nat.le_refl _)] at this)
      gi_wp2
      go_end0
      exact ⟨⟨_, rfl⟩, .inl ⟨_, attE_map es, HJ4.out⟩⟩
end Go.Proofs.YtkhgnfofinpofaaGreat

/-
  Whether a tree goes over just these: the walk of the laws' whole.
-/
namespace Go.Proofs.YtkhgnfofinpofaaGreat
open Go.RowKit Go.Shelf Go.Lib
attribute [local go_sem] Oper.semAt_some

/-- What is whole's own while it goes over all. -/
def WhI (es : List En) (w0 : World) (b : Nat) (A : Option Addr) (c : Nat) (pre : List (KM es)) (W : World) : Prop :=
  (Boxed W b 26 (.slice A es.length c) ∧ Boxed W (b + 1) 4 (.bool false)) ∧ Boxed W (b + 2) 3 (.int .i64 (pre.length : Nat)) ∧ Below w0.heap.size w0 W
theorem pre_mis {es : List En} {pre : List (KM es)} {x : KM es} {y : KV} (hy : (keptE es)[pre.length]? = some y) (h : x.1 ≠ y) : ¬ (pre ++ [x]).map (·.1) <+: keptE es := fun hp => by
  obtain ⟨t, ht⟩ := hp
  rw [List.map_append] at ht
  have h1 : (keptE es)[pre.length]? = some x.1 := by
    have h2 : (pre.map (·.1) ++ [x].map (·.1) ++ t)[pre.length]? = (keptE es)[pre.length]? := by rw [ht]
    rw [← h2, List.append_assoc, List.getElem?_append_right (by rw [List.length_map]; exact Nat.le_refl _)]
    simp
  rw [hy] at h1
  exact h (Option.some.inj h1).symm
set_option maxRecDepth 100000 in
set_option maxHeartbeats 8000000 in
theorem whole_any (S : Nat → Prop) (A : Option Addr) (c : Nat) (es : List En) (q : Nat) (w : World) (hT : TreeAt S w q es) (hr : Row w A (flatKV (keptE es))) (hel : es.length ≤ 4194304) :
    Calls Tryz.prog 11 #[.pointer (some ⟨q, 0, none⟩), .slice A es.length c] w fun e w' => e = .returned (.bool true) ∧ Below w.heap.size w w' := by
  have hfn : ∀ (b : Nat) (w : World), (binOp .eql 68 (.func (.func 42) #[] #[.pointer (some ⟨b, 0, none⟩)]) .nilFunc).run Tryz.prog w = .ok (.bool false) w := fun _ _ => rfl
  have HA := Lib.hid (fun W (h : Below w.heap.size w W) => All_any S W q es (hT.below h) hel)
  have HR := Lib.hid hr
  have HKL := Lib.hid (keptE_length es)
  clear hT hr
  refine (callsIn_wide (n := 8)).1 ?_
  refine callsIn_of_wp_marks Tryz.func11 rfl trivial ?_ rfl
  simp only [Tryz.ntmps11, List.size_toArray, List.length_cons, List.length_nil, Nat.reduceAdd, Nat.reduceSub, Array.replicate_succ, Array.replicate_zero, List.push_toArray, List.append_toArray, List.nil_append, List.cons_append]
  gi_wp2_with fail
  have bL := Boxed.new w 26 (.slice A es.length c)
  have bR := Boxed.new (w.alloc (.cells #[.slice A es.length c] 26)) 4 (.bool false)
  have bI := Boxed.new ((w.alloc (.cells #[.slice A es.length c] 26)).alloc (.cells #[.bool false] 4)) 3 (.int .i64 0)
  refine ⟨trivial, (callsIn_wide.2 (HA.out _ ?b0)).mono ?_⟩
  case b0 => exact (((Below.refl _ w).alloc (Nat.le_refl _) _).alloc (by simp) _).alloc (by rw [World.size_alloc, World.size_alloc]; omega) _
  rintro e w1 ⟨A1, c1, rfl, b1, hl1, hc1, hr1⟩
  have bL1 := ((bL.alloc (.cells #[.bool false] 4)).alloc (.cells #[.int .i64 0] 3)).kept (below_grown b1) (fun e => by cases e)
  have bR1 := (bR.alloc (.cells #[.int .i64 0] 3)).kept (below_grown b1) (fun e => by cases e)
  have bI1 := bI.kept (below_grown b1) (fun e => by cases e)
  have B1 : Below w.heap.size w w1 := ((((Below.refl _ w).alloc (Nat.le_refl _) _).alloc (by simp) _).alloc (by rw [World.size_alloc, World.size_alloc]; omega) _).trans (b1.mono (by rw [World.size_alloc, World.size_alloc, World.size_alloc]; omega))
  simp only [World.size_alloc] at hc1 hr1 hl1 bL1 bR1 bI1 ⊢
  clear bL bR bI b1
  gi_wp2_with fail
  have hrS := hr1.mono (S' := fun b => w.heap.size + 1 + 1 + 1 ≤ b ∧ b < w1.heap.size) (fun b h k => ⟨h, k⟩)
  clear hr1
  refine wpIn_rangeFunc_ownG rfl (by omega) (gf := 42) (lb := #[.pointer (some ⟨w.heap.size + 1 + 1 + 1, 0, none⟩)]) rfl trivial (enters_of Tryz.func42 (by kernel_rfl) rfl)
    (all1_mem (fun b => w.heap.size + 1 + 1 + 1 ≤ b ∧ b < w1.heap.size) (8 - 1) (by omega) (w.heap.size + 1 + 1 + 1) A1 c1 es hel w1 hl1 hc1 hrS (fun b h => h.2)) (fun h k => h.trans k) (hold_putObj (fun b h => h.2) (Nat.le_refl _)) (Below.refl _ _) (fun _ => rfl)
    (WhI es w w.heap.size A c)
    (fun cc pre W => (Boxed W (w.heap.size + 1) 4 (.bool false) ∧ Below w.heap.size w W) ∧ cc = .ret ∧ ¬ pre.map (·.1) <+: keptE es)
    ?own ?ownx ⟨⟨bL1, bR1⟩, bI1, B1⟩ ?_ ?assign ?body ?done ?stop
  case own => exact OwnFrom.and (OwnFrom.and (Own.from (boxed_at w.heap.size 26 (fun _ => .slice A es.length c)) _) (Own.from (boxed_at (w.heap.size + 1) 4 (fun _ => .bool false)) _)) (OwnFrom.and (Own.from (boxed_at (w.heap.size + 2) 3 (fun pre : List (KM es) => .int .i64 (pre.length : Nat))) _) (ownFrom_below (Nat.le_refl _) B1.size))
  case ownx =>
    exact fun cc s W W' row hs hg hr => ⟨(OwnFrom.and (Own.from (boxed_at (β := List (KM es)) (w.heap.size + 1) 4 (fun _ => .bool false)) w1.heap.size) (ownFrom_below (Nat.le_refl _) B1.size)) s W W' row hs.1 hg hr, hs.2⟩
  case assign =>
    intro l x W K hK
    gi_wp2
    exact hK
  case body =>
    rintro l pre ⟨⟨p, v⟩, hx⟩ W ⟨⟨hL, hR⟩, hI, hB⟩ hlt
    obtain ⟨y, hy⟩ := some_of_lt (show pre.length < (keptE es).length by rw [HKL.out]; exact hlt)
    obtain ⟨b, off, rfl, hb, f0, f1⟩ := (HR.out.below hB).kv hy
    have hcL := hL.cell
    have hcI := hI.cell
    have hcR := hR.cell
    have hfR := hR.frozen
    have hfI := hI.frozen
    have HM := Lib.hid (fun h : (p, v) ≠ y => pre_mis (x := ⟨(p, v), hx⟩) hy h)
    have hltI : ((pre.length : Nat) : Int) < ((es.length : Nat) : Int) := by omega
    obtain ⟨yp, yv⟩ := y
    dsimp only at f0 f1
    by_cases hp : yp = p
    · subst hp
      by_cases hv : yv = v
      · subst hv
        have e1 : (yp.toList != yp.toList) = false := by simp
        have e2 : (yv != yv) = false := by simp
        clear HM hy
        gi_wp2
        refine ⟨(KeepsOthers.setCell W ⟨w.heap.size + 2, 0, none⟩ _).from _, Hold.of_grown (grownBy_setCell' W (w.heap.size + 2) _) (fun b e k => by cases e; omega), ⟨hL.other (by omega) _, hR.other (by omega) _⟩, ?_, hB.setCell (by show w.heap.size ≤ w.heap.size + 2; omega) _⟩
        have hI2 := hI.set (.int .i64 ((pre.length : Nat) + 1 : Int))
        simpa using hI2
      · have e1 : (yp.toList != yp.toList) = false := by simp
        have e2 : (yv != v) = true := by simpa using hv
        have HM2 := Lib.hid (HM.out (fun e => hv (Prod.mk.inj e).2.symm))
        clear HM hy hv
        gi_wp2
        exact ⟨(KeepsOthers.setCell W ⟨w.heap.size + 1, 0, none⟩ _).from _, ⟨by simpa using hR.set (.bool false), hB.setCell (by show w.heap.size ≤ w.heap.size + 1; omega) _⟩, rfl, HM2.out⟩
    · have e1 : (yp.toList != p.toList) = true := by rw [bne, eq_str, decide_eq_false hp]; rfl
      have e0 : (yp.toList == p.toList) = false := by rw [eq_str, decide_eq_false hp]
      have e3 : ¬ yp.toList = p.toList := by simpa using e0
      have HM2 := Lib.hid (HM.out (fun e => hp (Prod.mk.inj e).1.symm))
      clear HM hy hp
      gi_wp2
      exact ⟨(KeepsOthers.setCell W ⟨w.heap.size + 1, 0, none⟩ _).from _, ⟨by simpa using hR.set (.bool false), hB.setCell (by show w.heap.size ≤ w.heap.size + 1; omega) _⟩, rfl, HM2.out⟩
  case done =>
    rintro D ys W hD hys ⟨⟨hL, hR⟩, hI, hB⟩ hK
    have hyl : ys.length = es.length := by rw [← keptE_length es, ← hys, List.length_map]
    rw [hyl] at hI
    clear hys hyl
    have hcL := hL.cell
    have hcI := hI.cell
    have hcR := hR.cell
    have hfR := hR.frozen
    have hR2 := hR.set (.bool true)
    have hK2 := (KeepsOthers.setCell W ⟨w.heap.size + 1, 0, none⟩ (.bool true)).same D _ hK rfl
    have hB2 := hB.setCell (p := ⟨w.heap.size + 1, 0, none⟩) (by show w.heap.size ≤ w.heap.size + 1; omega) (.bool true)
    have hc2 := hR2.cell
    gi_wp2
    refine ⟨by simp, .inl ⟨_, _, rfl, run_takeDeferred hK2, ?_⟩⟩
    have hne : D ≠ w.heap.size + 1 := by omega
    have hcf : ((W.setCell ⟨w.heap.size + 1, 0, none⟩ (.bool true)).putObj D (.deferred none)).cell? ⟨w.heap.size + 1, 0, none⟩ = some (.bool true) := by
      rw [← hc2]
      simp [World.cell?, World.putObj, hne]
    exact ⟨.bool true, by simp [results, Tryz.results11, go_sem, hcf], rfl, hB2.trans (belowK_b (w := w) (Nat.le_refl _) _ D _ _ (by omega) hK2 rfl rfl)⟩
  case stop =>
    rintro D c pre W hD hsp ⟨⟨hR, hB⟩, rfl, hn⟩ _
    exact absurd hsp hn
end Go.Proofs.YtkhgnfofinpofaaGreat
