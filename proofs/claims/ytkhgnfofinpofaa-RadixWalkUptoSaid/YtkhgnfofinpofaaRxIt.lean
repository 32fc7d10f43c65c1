/-
  A tree beside others: what it keeps away from.
-/
import Derived.Test.YtkhgnfofinpofaaRxKs
import Derived.Test.YtkhgnfofinpofaaRxKf
namespace Go.Proofs.Ytkhgnfofinpofaa
open Go.RowKit Go.Shelf Go.Lib
attribute [local go_sem] Oper.semAt_some

/-- A tree that keeps away from some blocks. -/
def Kv (V : Nat → Prop) (w0 w : World) (q : Nat) (es : List En) (B : Nat) : Prop := ∃ S, TreeAt S w q es ∧ GoodE es ∧ sumE es ≤ B ∧ w0.heap.size ≤ q ∧ Below w0.heap.size w0 w ∧ ∀ b, V b → ¬ S b ∧ b ≠ q ∧ b < w.heap.size
section
variable {V : Nat → Prop} {w0 w w' : World} {q B : Nat} {es : List En}
theorem Kv.kp (h : Kv V w0 w q es B) : Kp w0 w q es B := by
  obtain ⟨S, h1, h2, h3, h4, h5, _⟩ := h
  exact ⟨S, h1, h2, h3, h4, h5⟩
theorem Kv.below (h : Kv V w0 w q es B) (hb : Below w.heap.size w w') : Kv V w0 w' q es B := by
  obtain ⟨S, h1, h2, h3, h4, h5, h6⟩ := h
  exact ⟨S, h1.below hb, h2, h3, h4, h5.trans (hb.mono h5.size), fun b hb2 => ⟨(h6 b hb2).1, (h6 b hb2).2.1, Nat.lt_of_lt_of_le (h6 b hb2).2.2 hb.size⟩⟩
theorem Kv.more {B' : Nat} (h : Kv V w0 w q es B) (hB : B ≤ B') : Kv V w0 w q es B' := by
  obtain ⟨S, h1, h2, h3, h4, h5, h6⟩ := h
  exact ⟨S, h1, h2, Nat.le_trans h3 hB, h4, h5, h6⟩
theorem Kv.off (h : Kv V w0 w q es B) {b : Nat} (hb : V b) : b < w.heap.size ∧ b ≠ q := by
  obtain ⟨S, h1, h2, h3, h4, h5, h6⟩ := h
  exact ⟨(h6 b hb).2.2, (h6 b hb).2.1⟩
/-- Another tree has turned. -/
theorem Kv.turn {q' : Nat} (h : Kv V w0 w q es B) (hq : V q') (ht : Turn q' w w') (hq0 : w0.heap.size ≤ q') : Kv V w0 w' q es B := by
  obtain ⟨S, h1, h2, h3, h4, h5, h6⟩ := h
  exact ⟨S, h1.hold (ht.hold (h6 q' hq).1) (ht.block q h1.lt (fun e => (h6 q' hq).2.1 e.symm)), h2, h3, h4, h5.trans (ht.below hq0 h5.size), fun b hb2 => ⟨(h6 b hb2).1, (h6 b hb2).2.1, Nat.lt_of_lt_of_le (h6 b hb2).2.2 ht.size⟩⟩
end
def GivesInsV (V : Nat → Prop) (w0 w : World) (q : Nat) (es : List En) (B : Nat) (s : ByteArray) (v : Int) (e : Ending) (w' : World) : Prop :=
  ∃ code es', e = .returned (.int .i64 code) ∧ InsTo es s v code es' ∧ Kv V w0 w' q es' (B + (s.size + 1)) ∧ Turn q w w'
theorem InsertV (V : Nat → Prop) (w0 w : World) (q : Nat) (es : List En) (B : Nat) (s : ByteArray) (v : Int) (h : Kv V w0 w q es B) (hB : 3 * (B + (s.size + 1)) ≤ 4194304) :
    Calls Try.prog 12 #[.pointer (some ⟨q, 0, none⟩), .string s, .int .i64 v] w (GivesInsV V w0 w q es B s v) := by
  obtain ⟨S, h1, h2, h3, h4, h5, h6⟩ := h
  have hl := h2.load
  refine (Insert_any S w q es s v h1 h2 (by omega) (by omega)).mono fun e w' hg => ?_
  unfold GivesInsert GivesInsertR at hg
  rcases hg with ⟨g1, g2, g3⟩ | ⟨g1, g2, g3, g4⟩ | ⟨g1, g2, g3, ⟨loc, g4⟩, g5⟩
  · exact ⟨130, es, g2, .inl ⟨g1, rfl, rfl⟩, (Kv.below ⟨S, h1, h2, h3, h4, h5, h6⟩ g3).more (Nat.le_add_right _ _), Turn.of_below g3⟩
  · exact ⟨131, es, g3, .inr (.inl ⟨g1, g2, rfl, rfl⟩), (Kv.below ⟨S, h1, h2, h3, h4, h5, h6⟩ g4).more (Nat.le_add_right _ _), Turn.of_below g4⟩
  · exact ⟨0, _, g3, .inr (.inr ⟨g1, g2, rfl, loc, rfl⟩), ⟨_, g4, h2.ins g1 g2, by rw [sumE_ins]; show sumE es + (s.size + 1) ≤ B + (s.size + 1); omega, h4, h5.trans (g5.below h4 h5.size), fun b hb => ⟨by rintro (k | ⟨k, _⟩); exact (h6 b hb).1 k; have := (h6 b hb).2.2; omega, (h6 b hb).2.1, Nat.lt_of_lt_of_le (h6 b hb).2.2 g5.size⟩⟩, g5⟩
def GivesRemV (V : Nat → Prop) (w0 w : World) (q : Nat) (es : List En) (B : Nat) (s : ByteArray) (e : Ending) (w' : World) : Prop :=
  ∃ r es', e = .returned (.tuple #[.int .i64 r.1, .bool r.2]) ∧ RemTo es s r es' ∧ Kv V w0 w' q es' B ∧ Turn q w w'
theorem RemoveV (V : Nat → Prop) (w0 w : World) (q : Nat) (es : List En) (B : Nat) (s : ByteArray) (h : Kv V w0 w q es B) (hB : 3 * B ≤ 4194304) :
    Calls Try.prog 25 #[.pointer (some ⟨q, 0, none⟩), .string s] w (GivesRemV V w0 w q es B s) := by
  obtain ⟨S, h1, h2, h3, h4, h5, h6⟩ := h
  have hl := h2.load
  refine (Remove_any S w q es s h1 h2 (by omega)).mono fun e w' hg => ?_
  rcases hg with ⟨g1, g2, g3⟩ | ⟨i, x, g1, g2, g3, g4, g5⟩
  · exact ⟨(0, false), es, g2, .inl ⟨g1, rfl, rfl⟩, Kv.below ⟨S, h1, h2, h3, h4, h5, h6⟩ g3, Turn.of_below g3⟩
  · exact ⟨(x.2.2.2, true), _, g3, .inr ⟨i, x, g1, g2, rfl, rfl⟩, ⟨_, g4, remE_sort h2 i, Nat.le_trans (sumE_sub (List.eraseIdx_sublist _ _)) h3, h4, h5.trans (g5.below h4 h5.size), fun b hb => ⟨by rintro (k | ⟨k, _⟩); exact (h6 b hb).1 k; have := (h6 b hb).2.2; omega, (h6 b hb).2.1, Nat.lt_of_lt_of_le (h6 b hb).2.2 g5.size⟩⟩, g5⟩
end Go.Proofs.Ytkhgnfofinpofaa

/-
  The iterator of All, whose elements are known to be kept.
-/
namespace Go.Proofs.Ytkhgnfofinpofaa
open Go.RowKit Go.Shelf Go.Lib
attribute [local go_sem] Oper.semAt_some

abbrev KM (es : List En) := { x : KV // x ∈ keptE es }
def attE (es : List En) : List (KM es) := (keptE es).attach
theorem attE_map (es : List En) : (attE es).map (·.1) = keptE es := List.attach_map_subtype_val _
theorem attE_length (es : List En) : (attE es).length = es.length := by unfold attE; rw [List.length_attach, keptE_length]
theorem attE_get {es : List En} {k : Nat} {x : En} (h : es[k]? = some x) : ∃ y : KM es, (attE es)[k]? = some y ∧ y.1 = (x.1, x.2.2.2) := by
  have hk := (List.getElem?_eq_some_iff.1 h).1
  have hl := attE_length es
  have hg : (attE es)[k]? = some (attE es)[k] := List.getElem?_eq_getElem (by omega)
  refine ⟨_, hg, ?_⟩
  have h1 : ((attE es).map (·.1))[k]? = some (attE es)[k].1 := by rw [List.getElem?_map, hg]; rfl
  rw [attE_map, keptE_get h] at h1
  exact (Option.some.inj h1).symm
set_option maxRecDepth 20000 in
set_option maxHeartbeats 4000000 in
/-- THE ITERATOR GOES OVER ALL ENTRIES; what it needs is its own cell and its own row. -/
theorem all1_mem (S : Nat → Prop) (n : Nat) (_hn : 1 ≤ n) (Bn : Nat) (A : Option Addr) (c : Nat) (es : List En) (hel : es.length ≤ 4194304) (w : World) (hB : Bn < w.heap.size) (hc : w.cell? ⟨Bn, 0, none⟩ = some (.slice A es.length c)) (hr : RowF S w A (flatE es)) (hS : ∀ b, S b → b < w.heap.size) :
    SeqStopsK Fence.wide n Try.prog 47 #[.pointer (some ⟨Bn, 0, none⟩)] (fun x : KM es => #[Value.string x.1.1, .int .i64 x.1.2]) (Hold S) (fun ys => ys.map (·.1) = keptE es) (fun ys => ys.map (·.1) <+: keptE es) es.length w := fun l J Jx W hW hJ _ hY h0 => by
  have hcW := (hW.cell (p := ⟨Bn, 0, none⟩) hB).trans hc
  have hrW := hr.hold (Hold.of_below hW)
  have hSW : ∀ b, S b → b < W.heap.size := fun b h => Nat.lt_of_lt_of_le (hS b h) hW.size
  clear hc hW hB hr hS
  have HY := Lib.hid hY
  have HJ := Lib.hid hJ
  have HR := Lib.hid hrW
  have HS := Lib.hid hSW
  clear hY hJ hrW hSW
  refine callsIn_of_wp Try.func47 rfl trivial ?_ rfl
  simp only [Try.ntmps47, List.size_toArray, List.length_cons, List.length_nil, Nat.reduceAdd, Nat.reduceSub, Array.replicate_succ, Array.replicate_zero, List.push_toArray, List.append_toArray, List.nil_append, List.cons_append]
  gi_wp2
  gi_loopw [7] (fun i wr => ∃ k : Nat, k ≤ es.length ∧ i = .int .i64 k ∧ Hid (J ((attE es).take k) wr) ∧ Hid (Hold S W wr)) (fun i _ => es.length - (RowKit.intOf i).toNat)
  case atStart => exact ⟨0, by omega, rfl, Lib.hid h0, Lib.hid (Hold.refl _ _)⟩
  case round =>
    obtain ⟨k, hk, rfl, HJk, HH⟩ := hrel
    by_cases hlt : k < es.length
    · obtain ⟨x, hx⟩ := some_of_lt hlt
      obtain ⟨b, off, rfl, hb, f0, f1, f2⟩ := (HR.out.hold HH.out).row.en hx
      obtain ⟨y, hy, hy1⟩ := attE_get hx
      have HT := Lib.hid (take_snoc hy)
      obtain ⟨p, ⟨XA, xc⟩, xl, xv⟩ := x
      dsimp only at f0 f1 f2 hy1
      have hJ1 : J ((attE es).take k) (wr.alloc (.cells #[.string p, .slice XA xl.length xc, .int .i64 xv] 88)) := HJ.out _ _ _ none HJk.out (World.grownBy_alloc _ _ none) (fun r e => by cases e)
      obtain ⟨fn, tmps, assign, body, hyy, hR⟩ := HY.out ((attE es).take k) y _ hJ1 (by rw [List.length_take, attE_length]; omega)
      have HHa : Hid (Hold S W (wr.alloc (.cells #[.string p, .slice XA xl.length xc, .int .i64 xv] 88))) := Lib.hid ⟨by have := HH.out.1; simp; omega, fun b hb hl => (Below.heap_alloc wr _ b (Nat.lt_of_lt_of_le hl HH.out.1)).trans (HH.out.2 b hb hl)⟩
      rw [hy1] at hyy
      dsimp only at hyy
      have HPR := Lib.hid (show ((attE es).take k ++ [y]).map (·.1) <+: keptE es by rw [← HT.out, List.map_take, attE_map]; exact List.take_prefix _ _)
      clear hJ1 hx
      gi_wp2
      refine hR.mono ?_
      rintro e W3 (⟨rfl, hJ3, hk3⟩ | ⟨rfl, hJx3⟩)
      · have HJ3 : Hid (J ((attE es).take (k + 1)) W3) := Lib.hid (by rw [HT.out]; exact hJ3)
        have HH3 : Hid (Hold S W W3) := Lib.hid (HHa.out.trans hk3)
        clear hJ3 hk3
        gi_wp2
        go_roundw
        case rel => exact ⟨k + 1, by omega, by go_num, HJ3, HH3⟩
        case measure => simp [RowKit.intOf]; omega
      · gi_wp2
        refine bodyPost_ret (results_none rfl _ _ _) rfl ?_
        exact ⟨⟨_, rfl⟩, .inr ⟨_, HPR.out, hJx3⟩⟩
    · obtain rfl : k = es.length := by omega
      have HJ4 : Hid (J (attE es) wr) := Lib.hid (by have := HJk.out; rwa [List.take_of_length_le (by rw [attE_length]; exact Nat.le_refl _)] at this)
      gi_wp2
      go_end0
      exact ⟨⟨_, rfl⟩, .inl ⟨_, attE_map es, HJ4.out⟩⟩
end Go.Proofs.Ytkhgnfofinpofaa

/-
  Whether a tree goes over just these: the walk of the laws' whole.
-/
namespace Go.Proofs.Ytkhgnfofinpofaa
open Go.RowKit Go.Shelf Go.Lib
attribute [local go_sem] Oper.semAt_some

end Go.Proofs.Ytkhgnfofinpofaa
